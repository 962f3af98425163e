/-
  Contracts of Spread, in the program and in the reference.
-/
import Derived.Test.YtgpimlmolcjeoaaRunh
namespace Go.Proofs.Ytgpimlmolcjeoaa
open Go.RowKit
set_option linter.unusedVariables false
set_option maxRecDepth 100000

/-- every block of another type than e is as it was. -/
def Kept (e : TypeId) (w w' : World) : Prop := ∀ (b : Nat) (cs : Array Value) (t : TypeId) (fr : Nat × Nat), w.heap[b]? = some (Obj.cells cs t fr) → t ≠ e → w'.heap[b]? = w.heap[b]?
theorem Kept.of_own {w w' : World} {base size n : Nat} {e : TypeId} {v : Value} {xs : List Value} (h : w.ownsRow base e size v n xs) (hg : w.grownBy w' v.ownBlock) : Kept e w w' := by
  intro b cs t fr hb hne
  have hlt : b < w.heap.size := by
    rcases Nat.lt_or_ge b w.heap.size with h1 | h1
    · exact h1
    · rw [Array.getElem?_eq_none h1] at hb; cases hb
  refine hg.block b hlt ?_
  rcases h.2 with ⟨hv, _⟩ | ⟨g, cap, cur, hv, hbg, hgb, _⟩
  · rw [hv]; intro hc; cases hc
  · rw [hv]
    intro hc
    have hgg : g = b := (by simpa [Value.ownBlock] using hc : b = g).symm
    subst hgg
    rw [hgb] at hb
    injection hb with hb
    injection hb with _ h2 _
    exact hne h2.symm
theorem append_one_k {P : Program} {W : World} {ops : Array Oper} {rest : List Oper} {o : Oper} {a : Act} {Q : Exit → Act → World → Prop} (hg : o.guard = none) (s x : Operand) (t : TypeId)
    (ho : o.op = .call { callee := .builtin .append, args := #[s, x], argTypes := #[t, t] })
    (base : Nat) (e : TypeId) (i : TypeInfo) (z : Value) (size bytes : Nat) (ht : P.underlying t = some (.slice e)) (hi : P.info? e = some i) (hz : i.zero = some z)
    (hsize : i.size = size) (hby : i.bytes = bytes) (hzs : z.cells.size = size) (hsz : 0 < size) (hbb : bytes ≤ 64)
    (A : Option Addr) (n c : Nat) (xs : List Value) (hs : a.eval s = .slice A n c) (hown : W.ownsRow base e size (.slice A n c) n xs)
    (news : List Value) (B : Nat) (hx : a.eval x = .slice (some ⟨B, 0, none⟩) 1 1) (hBs : W.heap.size = B) (hnl : news.length = size) (h1 : ∀ u ∈ news, u.oneCell' = true) (hb : base ≤ W.heap.size) (hn : n ≤ 1099511627776)
    (h : ∀ A' c' w', w'.ownsRow base e size (.slice A' (n + 1) c') (n + 1) (xs ++ news) → Below base W w' → Kept e W w' → wpList P ops Q rest (a.put o.dst (.slice A' (n + 1) c')) w') :
    wpList P ops Q (o :: rest) a (W.alloc (.cells news.toArray e)) := by
  subst hBs
  refine wpList_append_own (W.alloc (.cells news.toArray e)) hg s x t ho base e i z size bytes ht hi hz hsize hby hzs hsz (.slice A n c) n xs hs (hown.alloc _) ⟨W.heap.size, 0, none⟩ 1 1 news hx (by omega) ?_ h1 (by unfold maxLen; omega) ?_ (by simp; omega) ?_
  · intro j u hu
    have h2 := World.news_of_block (cs := news.toArray) (t := e) (fr := (0, 0)) (heap_alloc_new W (.cells news.toArray e)) j u (by simpa using hu)
    exact h2
  · have : (n + 1) * bytes ≤ 1099511627777 * 64 := Nat.mul_le_mul (by omega) hbb
    omega
  · intro v' w' hown' hgr _
    obtain ⟨g, cap, hv, hbg, hgl⟩ := hown'.form (by omega)
    subst hv
    refine h _ _ w' hown' ((Below.alloc (Below.refl base W) hb _).grown hgr (by simp; omega) (fun k hk => (hown.lt k hk).1)) ?_
    intro b cs t fr hbb hne
    have hlt : b < W.heap.size := by
      rcases Nat.lt_or_ge b W.heap.size with h1 | h1
      · exact h1
      · rw [Array.getElem?_eq_none h1] at hbb; cases hbb
    have hal : (W.alloc (.cells news.toArray e)).heap[b]? = W.heap[b]? := ((Below.refl W.heap.size W).alloc (Nat.le_refl _) _).block b hlt
    exact (Kept.of_own (hown.alloc _) hgr b cs t fr (hal.trans hbb) hne).trans hal

def spreadStep (o : Option (List V)) (r : V × Int) : Option (List V) := o.bind fun out => if 1 ≤ r.2 ∧ r.2 ≤ 64 - (out.length : Int) then some (out ++ List.replicate r.2.toNat r.1) else none
def spreadO (rs : List (V × Int)) : Option (List V) := rs.foldl spreadStep (some [])
def spreadOf (rs : List (V × Int)) : List V := (spreadO rs).getD []
theorem spreadO_snoc {rs : List (V × Int)} {k : Nat} {r : V × Int} (h : rs[k]? = some r) : spreadO (rs.take (k + 1)) = spreadStep (spreadO (rs.take k)) r := by
  unfold spreadO
  rw [List.take_add_one, h]
  simp [List.foldl_append]
theorem spread_none (rs : List (V × Int)) : rs.foldl spreadStep none = none := by
  induction rs with
  | nil => rfl
  | cons r rs ih => simpa [spreadStep] using ih
theorem spreadO_fail {rs : List (V × Int)} {k : Nat} (h : spreadO (rs.take k) = none) : spreadOf rs = [] := by
  have : spreadO rs = none := by
    conv => lhs; rw [← List.take_append_drop k rs]
    unfold spreadO at h ⊢
    rw [List.foldl_append, h, spread_none]
  simp [spreadOf, this]
theorem spread_bad {rs : List (V × Int)} {k : Nat} {x : V} {q : Int} {out : List V} (hx : rs[k]? = some (x, q)) (ho : spreadO (rs.take k) = some out) (hq : q < 1 ∨ 64 - (out.length : Int) < q) : spreadOf rs = [] := by
  refine spreadO_fail (k := k + 1) ?_
  rw [spreadO_snoc hx, ho]
  simp only [spreadStep, Option.bind_some]
  rw [if_neg (by omega)]
theorem spread_good {rs : List (V × Int)} {k : Nat} {x : V} {Q : Nat} {out : List V} (hx : rs[k]? = some (x, (Q : Int))) (ho : spreadO (rs.take k) = some out) (h1 : 1 ≤ Q) (h2 : out.length + Q ≤ 64) : spreadO (rs.take (k + 1)) = some (out ++ List.replicate Q x) := by
  rw [spreadO_snoc hx, ho]
  simp only [spreadStep, Option.bind_some]
  rw [if_pos (by omega)]
  simp
theorem spread_done {rs : List (V × Int)} {out : List V} (h : spreadO (rs.take rs.length) = some out) : spreadOf rs = out := by
  rw [List.take_of_length_le (Nat.le_refl _)] at h
  simp [spreadOf, h]
theorem spreadOf_len (rs : List (V × Int)) : (spreadOf rs).length ≤ 64 := by
  have key : ∀ (l : List (V × Int)) (a : List V), a.length ≤ 64 → ((l.foldl spreadStep (some a)).getD []).length ≤ 64 := by
    intro l
    induction l with
    | nil => intro a ha; simpa using ha
    | cons r l ih =>
      intro a ha
      simp only [List.foldl_cons]
      by_cases hc : 1 ≤ r.2 ∧ r.2 ≤ 64 - (a.length : Int)
      · have e : spreadStep (some a) r = some (a ++ List.replicate r.2.toNat r.1) := by simp [spreadStep, hc]
        rw [e]
        exact ih _ (by simp; omega)
      · have e : spreadStep (some a) r = none := by simp only [spreadStep, Option.bind_some]; rw [if_neg hc]
        rw [e, spread_none]
        simp
  exact key rs [] (by simp)
theorem rep_snoc (out : List V) (t : Nat) (x : V) : valCells (out ++ List.replicate t x) ++ [.int .i64 x.ty, .int .i64 x.n, .string x.s] = valCells (out ++ List.replicate (t + 1) x) := by
  rw [List.replicate_succ']
  simp [valCells, V.enc]

set_option maxHeartbeats 3200000 in
theorem impl_Spread (w : World) (A : Option Addr) (c : Nat) (rs : List (V × Int)) (hr : Reads w w.heap.size 4 A rs.length (runCells rs)) (hl : rs.length ≤ 1099511627776) (hi : ∀ x ∈ rs, runOk x) :
    Calls Try.prog 28 #[.slice A rs.length c] w fun e w' => ∃ A' c', e = .returned (.slice A' (spreadOf rs).length c') ∧ w'.ownsRow w.heap.size 37 3 (.slice A' (spreadOf rs).length c') (spreadOf rs).length (valCells (spreadOf rs)) ∧ Below w.heap.size w w' := by
  clear hi
  obtain ⟨i0, hi0, hz0, hz1, hz2⟩ := info_parts info_Val
  go_enter Try.func28, Try.ntmps28
  go_wp2
  go_loopw [3, 10] (fun o i wr => ∃ (k : Nat) (A' : Option Addr) (c' : Nat) (out : List V) (m : Nat), k ≤ rs.length ∧ m ≤ 64 ∧ i = .int .i64 k ∧ o = .slice A' m c' ∧ wr.ownsRow w.heap.size 37 3 (.slice A' m c') m (valCells out) ∧ Hid (spreadO (rs.take k) = some out ∧ out.length = m) ∧ Below w.heap.size w wr) (fun _ i _ => rs.length - (intOf i).toNat)
  case atStart => exact ⟨0, _, _, [], 0, Nat.zero_le _, Nat.zero_le _, rfl, rfl, own_empty (Nat.le_refl _), Lib.hid ⟨rfl, rfl⟩, (Below.refl _ _).alloc (Nat.le_refl _) _⟩
  case round =>
    obtain ⟨k, A', c', out, m, hk, hm64, rfl, rfl, hown, hR, hbl⟩ := hrel
    have hsz := hbl.size
    by_cases hlt : k < rs.length
    · obtain ⟨p, off, x, q, rfl, hb, hx, hc0, hc1, hc2, hc3⟩ := hr.run hlt
      have hd0 : wr.cell? ⟨p, off + k * 4, none⟩ = some (.int .i64 x.ty) := (hbl.cell (p := ⟨p, off + k * 4, none⟩) hb).trans hc0
      have hd1 : wr.cell? ⟨p, off + k * 4 + 1, none⟩ = some (.int .i64 x.n) := (hbl.cell (p := ⟨p, off + k * 4 + 1, none⟩) hb).trans hc1
      have hd2 : wr.cell? ⟨p, off + k * 4 + 2, none⟩ = some (.string x.s) := (hbl.cell (p := ⟨p, off + k * 4 + 2, none⟩) hb).trans hc2
      have hd3 : wr.cell? ⟨p, off + k * 4 + 3, none⟩ = some (.int .i64 q) := (hbl.cell (p := ⟨p, off + k * 4 + 3, none⟩) hb).trans hc3
      clear hc0 hc1 hc2 hc3
      obtain ⟨W, hW⟩ : ∃ W, W = wr.alloc (.cells #[.int .i64 x.ty, .int .i64 x.n, .string x.s, .int .i64 q] 44) := ⟨_, rfl⟩
      have f0 : W.cell? ⟨wr.heap.size, 0, none⟩ = some (.int .i64 x.ty) := by rw [hW]; simp [go_sem]
      have f1 : W.cell? ⟨wr.heap.size, 1, none⟩ = some (.int .i64 x.n) := by rw [hW]; simp [go_sem]
      have f2 : W.cell? ⟨wr.heap.size, 2, none⟩ = some (.string x.s) := by rw [hW]; simp [go_sem]
      have f3 : W.cell? ⟨wr.heap.size, 3, none⟩ = some (.int .i64 q) := by rw [hW]; simp [go_sem]
      have hBX : W.heap[wr.heap.size]? = some (.cells #[.int .i64 x.ty, .int .i64 x.n, .string x.s, .int .i64 q] 44 (0, 0)) := by rw [hW]; exact heap_alloc_new _ _
      obtain ⟨B, hB⟩ : ∃ B, B = wr.heap.size := ⟨_, rfl⟩
      have hblW : Below w.heap.size w W := by rw [hW]; exact hbl.alloc hbl.size _
      have hownW : W.ownsRow w.heap.size 37 3 (.slice A' m c') m (valCells out) := by rw [hW]; exact hown.alloc _
      have HW := Lib.hid hW
      clear hW
      by_cases hq1 : q < 1
      · have hbad := Lib.hid (spread_bad hx.out hR.out.1 (.inl hq1))
        clear hx hR
        go_wp2_with fail
        rw [← HW.out]
        clear hd0 hd1 hd2 hd3 hown hbl
        go_wp2
        go_ret
        rw [hbad.out]
        exact ⟨none, 0, rfl, World.ownsRow_nil _ _ _ _, hblW⟩
      by_cases hq2 : 64 - (m : Int) < q
      · have hbad := Lib.hid (spread_bad hx.out hR.out.1 (.inr (by rw [hR.out.2]; exact hq2)))
        clear hx hR
        go_wp2_with fail
        rw [← HW.out]
        clear hd0 hd1 hd2 hd3 hown hbl
        go_wp2
        go_ret
        rw [hbad.out]
        exact ⟨none, 0, rfl, World.ownsRow_nil _ _ _ _, hblW⟩
      obtain ⟨Q, rfl⟩ := Int.eq_ofNat_of_zero_le (show (0 : Int) ≤ q by omega)
      have hgood := Lib.hid (spread_good hx.out hR.out.1 (show 1 ≤ Q by omega) (by rw [hR.out.2]; omega))
      have hom := Lib.hid hR.out.2
      clear hx hR
      go_wp2_with fail
      rw [← HW.out]
      clear hd0 hd1 hd2 hd3 hown hbl
      go_wp2_with fail
      rw [← hB] at f0 f1 f2 f3 hBX ⊢
      clear hB
      go_loopw [3, 6] (fun o i wq => ∃ (t : Nat) (A2 : Option Addr) (c2 : Nat), t ≤ Q ∧ i = .int .i64 t ∧ o = .slice A2 (m + t) c2 ∧ wq.ownsRow w.heap.size 37 3 (.slice A2 (m + t) c2) (m + t) (valCells (out ++ List.replicate t x)) ∧ wq.heap[B]? = W.heap[B]? ∧ Below w.heap.size w wq) (fun _ i _ => Q - (intOf i).toNat)
      case atStart => exact ⟨0, A', c', Nat.zero_le _, rfl, rfl, by simpa using hownW, rfl, hblW⟩
      case round =>
        obtain ⟨t, A2, c2, ht, rfl, rfl, hown2, hBq, hbl2⟩ := hrel
        have g0 : wr.cell? ⟨B, 0, none⟩ = some (.int .i64 x.ty) := (World.cell?_of_block (a := ⟨B, 0, none⟩) hBq).trans f0
        have g1 : wr.cell? ⟨B, 1, none⟩ = some (.int .i64 x.n) := (World.cell?_of_block (a := ⟨B, 1, none⟩) hBq).trans f1
        have g2 : wr.cell? ⟨B, 2, none⟩ = some (.string x.s) := (World.cell?_of_block (a := ⟨B, 2, none⟩) hBq).trans f2
        have g3 : wr.cell? ⟨B, 3, none⟩ = some (.int .i64 Q) := (World.cell?_of_block (a := ⟨B, 3, none⟩) hBq).trans f3
        have hBX2 := hBq.trans hBX
        clear f0 f1 f2 f3 hownW
        have hsz2 := hbl2.size
        by_cases htQ : t < Q
        · go_wp2_with (at_builtin; go_loud (refine append_one_k rfl (.tmp 31) (.tmp 34) 24 rfl w.heap.size 37 i0 _ 3 32 Try.underlying24 hi0 hz0 hz1 hz2 rfl (by omega) (by omega) A2 (m + t) c2 _ rfl hown2 [.int .i64 x.ty, .int .i64 x.n, .string x.s] _ rfl (by first | rfl | simp) rfl (by simp [Value.oneCell']) hsz2 (by omega) ?_); intro A3 c3 w3 hown3 hb3 hk3)
          rw [rep_snoc] at hown3
          have hBq3 := (hk3 _ _ _ _ hBX2 (by decide)).trans hBq
          have hbl3 := hbl2.trans hb3
          clear hown2 hb3 hk3 g0 g1 g2 g3 hbl2 hBX2
          go_wp2
          go_roundw
          case rel => exact ⟨t + 1, A3, c3, by omega, by go_num, rfl, hown3, hBq3, hbl3⟩
          case measure => simp [intOf]; omega
        · have htq : t = Q := by omega
          subst htq
          clear hBq hBX2
          go_wp2
          go_roundw
          case rel => exact ⟨k + 1, A2, c2, _, m + t, by omega, by omega, by go_num, rfl, hown2, Lib.hid ⟨hgood.out, by simp [hom.out]⟩, hbl2⟩
          case measure => simp [intOf]; omega
    · have hkn : k = rs.length := by omega
      subst hkn
      have hn := Lib.hid (spread_done hR.out.1)
      have hm := hR.out.2
      subst hm
      clear hR
      go_wp2
      go_ret
      rw [hn.out]
      exact ⟨_, _, rfl, hown, hbl⟩

set_option maxHeartbeats 3200000 in
theorem spec_Spread (w : World) (A : Option Addr) (c : Nat) (rs : List (V × Int)) (hr : Reads w w.heap.size 4 A rs.length (runCells rs)) (hl : rs.length ≤ 1099511627776) (hi : ∀ x ∈ rs, runOk x) :
    Calls Try.prog 41 #[.slice A rs.length c] w fun e w' => ∃ A' c', e = .returned (.slice A' (spreadOf rs).length c') ∧ w'.ownsRow w.heap.size 37 3 (.slice A' (spreadOf rs).length c') (spreadOf rs).length (valCells (spreadOf rs)) ∧ Below w.heap.size w w' := by
  clear hi
  obtain ⟨i0, hi0, hz0, hz1, hz2⟩ := info_parts info_Val
  go_enter Try.func41, Try.ntmps41
  go_wp2
  go_loopw [3, 4] (fun o i wr => ∃ (k : Nat) (A' : Option Addr) (c' : Nat) (out : List V) (m : Nat), k ≤ rs.length ∧ m ≤ 64 ∧ i = .int .i64 k ∧ o = .slice A' m c' ∧ wr.ownsRow w.heap.size 37 3 (.slice A' m c') m (valCells out) ∧ Hid (spreadO (rs.take k) = some out ∧ out.length = m) ∧ Below w.heap.size w wr) (fun _ i _ => rs.length - (intOf i).toNat)
  case atStart => exact ⟨0, _, _, [], 0, Nat.zero_le _, Nat.zero_le _, rfl, rfl, own_empty (Nat.le_refl _), Lib.hid ⟨rfl, rfl⟩, (Below.refl _ _).alloc (Nat.le_refl _) _⟩
  case round =>
    obtain ⟨k, A', c', out, m, hk, hm64, rfl, rfl, hown, hR, hbl⟩ := hrel
    have hsz := hbl.size
    by_cases hlt : k < rs.length
    · obtain ⟨p, off, x, q, rfl, hb, hx, hc0, hc1, hc2, hc3⟩ := hr.run hlt
      have hd0 : wr.cell? ⟨p, off + k * 4, none⟩ = some (.int .i64 x.ty) := (hbl.cell (p := ⟨p, off + k * 4, none⟩) hb).trans hc0
      have hd1 : wr.cell? ⟨p, off + k * 4 + 1, none⟩ = some (.int .i64 x.n) := (hbl.cell (p := ⟨p, off + k * 4 + 1, none⟩) hb).trans hc1
      have hd2 : wr.cell? ⟨p, off + k * 4 + 2, none⟩ = some (.string x.s) := (hbl.cell (p := ⟨p, off + k * 4 + 2, none⟩) hb).trans hc2
      have hd3 : wr.cell? ⟨p, off + k * 4 + 3, none⟩ = some (.int .i64 q) := (hbl.cell (p := ⟨p, off + k * 4 + 3, none⟩) hb).trans hc3
      by_cases hq1 : q < 1
      · have hbad := Lib.hid (spread_bad hx.out hR.out.1 (.inl hq1))
        clear hx hR
        go_wp2
        go_ret
        rw [hbad.out]
        exact ⟨_, _, rfl, own_empty hsz, hbl.alloc hbl.size _⟩
      by_cases hq2 : 64 - (m : Int) < q
      · have hbad := Lib.hid (spread_bad hx.out hR.out.1 (.inr (by rw [hR.out.2]; exact hq2)))
        clear hx hR
        go_wp2
        go_ret
        rw [hbad.out]
        exact ⟨_, _, rfl, own_empty hsz, hbl.alloc hbl.size _⟩
      obtain ⟨Q, rfl⟩ := Int.eq_ofNat_of_zero_le (show (0 : Int) ≤ q by omega)
      have hgood := Lib.hid (spread_good hx.out hR.out.1 (show 1 ≤ Q by omega) (by rw [hR.out.2]; omega))
      have hom := Lib.hid hR.out.2
      clear hx hR
      go_wp2_with fail
      go_loopw [3, 5] (fun o i wq => ∃ (t : Nat) (A2 : Option Addr) (c2 : Nat), t ≤ Q ∧ i = .int .i64 t ∧ o = .slice A2 (m + t) c2 ∧ wq.ownsRow w.heap.size 37 3 (.slice A2 (m + t) c2) (m + t) (valCells (out ++ List.replicate t x)) ∧ Below w.heap.size w wq) (fun _ i _ => Q - (intOf i).toNat)
      case atStart => exact ⟨0, A', c', Nat.zero_le _, rfl, rfl, by simpa using hown, hbl⟩
      case round =>
        obtain ⟨t, A2, c2, ht, rfl, rfl, hown2, hbl2⟩ := hrel
        have g0 : wr.cell? ⟨p, off + k * 4, none⟩ = some (.int .i64 x.ty) := (hbl2.cell (p := ⟨p, off + k * 4, none⟩) hb).trans hc0
        have g1 : wr.cell? ⟨p, off + k * 4 + 1, none⟩ = some (.int .i64 x.n) := (hbl2.cell (p := ⟨p, off + k * 4 + 1, none⟩) hb).trans hc1
        have g2 : wr.cell? ⟨p, off + k * 4 + 2, none⟩ = some (.string x.s) := (hbl2.cell (p := ⟨p, off + k * 4 + 2, none⟩) hb).trans hc2
        have g3 : wr.cell? ⟨p, off + k * 4 + 3, none⟩ = some (.int .i64 Q) := (hbl2.cell (p := ⟨p, off + k * 4 + 3, none⟩) hb).trans hc3
        clear hd0 hd1 hd2 hd3 hc0 hc1 hc2 hc3 hr hbl hown
        have hsz2 := hbl2.size
        by_cases htQ : t < Q
        · go_wp2_with (at_builtin; go_loud (refine append_one rfl (.tmp 40) (.tmp 46) 24 rfl w.heap.size 37 i0 _ 3 32 Try.underlying24 hi0 hz0 hz1 hz2 rfl (by omega) (by omega) A2 (m + t) c2 _ rfl hown2 [.int .i64 x.ty, .int .i64 x.n, .string x.s] _ rfl (by first | rfl | simp) rfl (by simp [Value.oneCell']) hsz2 (by omega) ?_); intro A3 c3 w3 hown3 hb3)
          rw [rep_snoc] at hown3
          have hbl3 := hbl2.trans hb3
          clear hown2 hb3 g0 g1 g2 g3 hbl2
          go_wp2
          go_roundw
          case rel => exact ⟨t + 1, A3, c3, by omega, by go_num, rfl, hown3, hbl3⟩
          case measure => simp [intOf]; omega
        · have htq : t = Q := by omega
          subst htq
          go_wp2
          go_roundw
          case rel => exact ⟨k + 1, A2, c2, _, m + t, by omega, by omega, by go_num, rfl, hown2, Lib.hid ⟨hgood.out, by simp [hom.out]⟩, hbl2⟩
          case measure => simp [intOf]; omega
    · have hkn : k = rs.length := by omega
      subst hkn
      have hn := Lib.hid (spread_done hR.out.1)
      have hm := hR.out.2
      subst hm
      clear hR
      go_wp2
      go_ret
      rw [hn.out]
      exact ⟨_, _, rfl, hown, hbl⟩

end Go.Proofs.Ytgpimlmolcjeoaa
