/-
  Contracts of the laws' helpers on lists of rows, and of SameRows.
-/
import Derived.Test.YtpchffcecmoieaaRowh
namespace Go.Proofs.Ytpchffcecmoieaa
open Go.RowKit Go.Deep
set_option linter.unusedVariables false
set_option maxRecDepth 100000

def RowsIn (w : World) (B : Nat) (rs : List RowV) : Prop := ∀ r ∈ rs, Reads w B 3 r.A r.l.length (valCells r.l)
theorem RowsIn.below {w w' : World} {B B1 : Nat} {rs : List RowV} (h : RowsIn w B rs) (hb : Below B1 w w') (hB : B ≤ B1) : RowsIn w' B rs := fun r hr => (h r hr).below hb hB
theorem RowsIn.more {w : World} {B B1 : Nat} {rs : List RowV} (h : RowsIn w B rs) (hB : B ≤ B1) : RowsIn w B1 rs := fun r hr => (h r hr).more hB
def RowV.key (r : RowV) : Int × List V := (r.id, r.l)
def Small (rs : List RowV) : Prop := ∀ r ∈ rs, r.l.length ≤ 1048576 ∧ ∀ x ∈ r.l, x.ok
def sameRows (a b : List RowV) : Bool := decide (a.map RowV.key = b.map RowV.key)
theorem key_at {a b : List RowV} (h : a.map RowV.key = b.map RowV.key) {k : Nat} {x y : RowV} (hx : a[k]? = some x) (hy : b[k]? = some y) : x.id = y.id ∧ x.l = y.l := by
  have h1 : (a.map RowV.key)[k]? = (b.map RowV.key)[k]? := by rw [h]
  simp only [List.getElem?_map, hx, hy, Option.map_some, Option.some.injEq, RowV.key, Prod.mk.injEq] at h1
  exact h1
theorem key_len {a b : List RowV} (h : a.map RowV.key = b.map RowV.key) : a.length = b.length := by
  have := congrArg List.length h
  simpa using this
def KeysTo (a b : List RowV) (k : Nat) : Prop := (a.take k).map RowV.key = (b.take k).map RowV.key
theorem KeysTo.zero (a b : List RowV) : KeysTo a b 0 := by simp [KeysTo]
theorem KeysTo.succ {a b : List RowV} {k : Nat} {x y : RowV} (h : KeysTo a b k) (hx : a[k]? = some x) (hy : b[k]? = some y) (h1 : x.id = y.id) (h2 : x.l = y.l) : KeysTo a b (k + 1) := by
  unfold KeysTo at h ⊢
  rw [List.take_add_one, List.take_add_one, hx, hy, List.map_append, List.map_append, h]
  simp [RowV.key, h1, h2]
theorem KeysTo.done {a b : List RowV} (h : KeysTo a b a.length) (hl : a.length = b.length) : sameRows a b = true := by
  unfold KeysTo at h
  rw [List.take_of_length_le (Nat.le_refl _), List.take_of_length_le (by omega)] at h
  simp [sameRows, h]
theorem rows_len {a b : List RowV} (h : ¬ a.length = b.length) : sameRows a b = false := decide_eq_false fun e => h (key_len e)
theorem rows_diff {a b : List RowV} {k : Nat} {x y : RowV} (hx : a[k]? = some x) (hy : b[k]? = some y) (h : sameRow x.id x.l y.id y.l = false) : sameRows a b = false := decide_eq_false fun e => by
  obtain ⟨h1, h2⟩ := key_at e hx hy
  simp [sameRow, sameVals, h1, h2] at h
theorem small_key {a b : List RowV} (h : a.map RowV.key = b.map RowV.key) (hs : Small b) : Small a := by
  intro r hr
  have h1 : RowV.key r ∈ a.map RowV.key := List.mem_map_of_mem hr
  rw [h] at h1
  obtain ⟨q, hq, he⟩ := List.mem_map.1 h1
  have h2 : q.l = r.l := by simp [RowV.key] at he; exact he.2
  have := hs q hq
  rwa [h2] at this
theorem same_keys {a b c d : List RowV} (h1 : a.map RowV.key = b.map RowV.key) (h2 : c.map RowV.key = d.map RowV.key) : sameRows a c = sameRows b d := by simp [sameRows, h1, h2]
set_option maxHeartbeats 800000 in
theorem szRowS_any (w : World) (A : Option Addr) (c : Nat) (rs : List RowV) (hr : Reads w w.heap.size 2 A rs.length (rs.flatMap RowV.enc)) (hin : RowsIn w w.heap.size rs) (hok : ∀ r ∈ rs, r.l.length ≤ maxLen ∧ ∀ x ∈ r.l, x.ok) (hl : rs.length ≤ maxLen) (left : Int) (h0 : 0 ≤ left) (h1 : left ≤ 1048576) :
    Calls Try.prog 4 #[.slice A rs.length c, .int .i64 left] w fun e w' => ∃ r : Int, e = .returned (.int .i64 r) ∧ (r ≤ left ∧ (0 ≤ r → (rs.length : Int) + r ≤ left ∧ Small rs)) ∧ Below w.heap.size w w' := by
  unfold maxLen at hl
  have HOK := Lib.hid hok
  have HIN := Lib.hid hin
  clear hok hin
  by_cases hn : left < rs.length
  · go_enter Try.func4, Try.ntmps4
    go_wp2
    go_ret
    exact ⟨-1, rfl, ⟨by omega, fun h => absurd h (by omega)⟩, Below.refl _ _⟩
  go_enter Try.func4, Try.ntmps4
  go_wp2
  go_loopw [1, 5] (fun q i wr => ∃ (k : Nat) (l : Int), i = .int .i64 k ∧ q = .int .i64 l ∧ k ≤ rs.length ∧ 0 ≤ l ∧ (rs.length : Int) + l ≤ left ∧ Hid (Small (rs.take k)) ∧ Below w.heap.size w wr) (fun _ i _ => rs.length - (intOf i).toNat)
  case atStart => exact ⟨0, left - rs.length, rfl, rfl, by omega, by omega, by omega, Lib.hid (by simp [Small]), Below.refl _ _⟩
  case round =>
    obtain ⟨k, l, rfl, rfl, hk, hl0, hsum, hsm, hbl⟩ := hrel
    by_cases hlt : k < rs.length
    · obtain ⟨b, off, x, rfl, hb, hx, hc0, hc1⟩ := hr.row hlt
      have hxm := List.mem_of_getElem? hx.out
      have hxo := HOK.out x hxm
      have hxr := (HIN.out x hxm).below hbl (Nat.le_refl _)
      have hd0 : wr.cell? ⟨b, off + k * 2, none⟩ = some (.int .i64 x.id) := (hbl.cell (p := ⟨b, off + k * 2, none⟩) hb).trans hc0
      have hd1 : wr.cell? ⟨b, off + k * 2 + 1, none⟩ = some (.slice x.A x.l.length x.c) := (hbl.cell (p := ⟨b, off + k * 2 + 1, none⟩) hb).trans hc1
      clear hr hc0 hc1
      go_wp2_with fail
      refine (szRow_any _ _ _ _ _ (hxr.more hbl.size) hxo.2 hxo.1 l hl0 (by omega)).mono ?_
      rintro e w1 ⟨q, rfl, ⟨hq1, hq2⟩, hb1⟩
      have hbl1 := hbl.trans (hb1.mono hbl.size)
      have HQ := Lib.hid hq2
      clear hd0 hd1 hb1 hbl hxr hq2
      by_cases hneg : q < 0
      · go_wp2
        go_ret
        exact ⟨-1, rfl, ⟨by omega, fun h => absurd h (by omega)⟩, hbl1⟩
      · have hq3 := HQ.out (by omega)
        have hsm2 : Hid (Small (rs.take (k + 1))) := Lib.hid (by
          intro r hr
          rw [List.take_add_one, hx.out] at hr
          rcases List.mem_append.1 hr with h | h
          · exact hsm.out r h
          · simp at h; subst h; exact ⟨by omega, hxo.2⟩)
        have hxo' := Lib.hid hxo
        clear hxo hq3 hx hxm
        go_wp2
        go_roundw
        case rel => exact ⟨k + 1, q, by go_num, rfl, by omega, by omega, by omega, hsm2, hbl1⟩
        case measure => simp [intOf]; omega
    · have hkn : k = rs.length := by omega
      subst hkn
      go_wp2
      go_ret
      have := hsm.out
      rw [List.take_of_length_le (Nat.le_refl _)] at this
      exact ⟨l, rfl, ⟨by omega, fun _ => ⟨hsum, this⟩⟩, hbl⟩

theorem info_Row : (Try.prog.info? 39).map (fun i => (i.zero, i.size, i.bytes)) = some (some (.agg #[.int .i64 0, .slice none 0 0]), 2, 32) := by kernel_rfl
theorem set_two (m zs : List Value) (j : Nat) (a b : Value) (hm : m.length = j) (hj : j + 1 < zs.length) : ((m ++ zs.drop j).set j a).set (j + 1) b = m ++ [a, b] ++ zs.drop (j + 2) := by
  rw [set_at m zs j a hm (by omega), set_at (m ++ [a]) zs (j + 1) b (by simp [hm]) (by omega)]
  simp
theorem own_set2 {w : World} {base g n cap : Nat} {e : TypeId} {size : Nat} {m zs : List Value} {j : Nat} (a b : Value) (h : w.ownsRow base e size (.slice (some ⟨g, 0, none⟩) n cap) n (m ++ zs.drop j)) (hm : m.length = j) (hj : j + 1 < zs.length) :
    ((w.setCell ⟨g, j, none⟩ a).setCell ⟨g, j + 1, none⟩ b).ownsRow base e size (.slice (some ⟨g, 0, none⟩) n cap) n (m ++ [a, b] ++ zs.drop (j + 2)) ∧ w.grownBy ((w.setCell ⟨g, j, none⟩ a).setCell ⟨g, j + 1, none⟩ b) (some g) := by
  obtain ⟨h1, g1⟩ := h.stored j a
  obtain ⟨h2, g2⟩ := h1.stored (j + 1) b
  rw [set_two m zs j a b hm hj] at h2
  exact ⟨h2, g1.trans g2⟩
def InLo (w : World) (lo : Nat) (rs : List RowV) : Prop := ∀ r ∈ rs, (∃ b, r.A = some ⟨b, 0, none⟩ ∧ lo ≤ b) ∧ Reads w w.heap.size 3 r.A r.l.length (valCells r.l)
theorem InLo.step {w w' : World} {lo : Nat} {rs : List RowV} (h : InLo w lo rs) (hb : Below w.heap.size w w') : InLo w' lo rs := fun r hr => ⟨(h r hr).1, (h r hr).2.step hb⟩
theorem InLo.set {w : World} {lo : Nat} {rs : List RowV} (h : InLo w lo rs) (p : Addr) (u : Value) (hp : p.block < lo) : InLo (w.setCell p u) lo rs := by
  intro r hr
  obtain ⟨⟨b, hA, hb⟩, hR⟩ := h r hr
  refine ⟨⟨b, hA, hb⟩, hR.1, fun hn => ?_⟩
  obtain ⟨b', off, e, hlt, hc⟩ := hR.2 hn
  refine ⟨b', off, e, by simpa using hlt, fun j v hj => ?_⟩
  rw [hA] at e
  injection e with e
  injection e with e1 e2
  subst e1
  exact (World.cell?_setCell_far _ _ _ _ (by simp; omega)).trans (hc j v hj)
theorem InLo.rowsIn {w : World} {lo : Nat} {rs : List RowV} (h : InLo w lo rs) : RowsIn w w.heap.size rs := fun r hr => (h r hr).2
set_option maxHeartbeats 1600000 in
theorem toRowS_any (w : World) (A : Option Addr) (c : Nat) (rs : List RowV) (hr : Reads w w.heap.size 2 A rs.length (rs.flatMap RowV.enc)) (hin : RowsIn w w.heap.size rs) (hok : Small rs) (hl : rs.length ≤ 1099511627776) :
    Calls Try.prog 6 #[.slice A rs.length c] w fun e w' => ∃ (g : Nat) (rs' : List RowV), e = .returned (.slice (some ⟨g, 0, none⟩) rs.length rs.length) ∧
      w'.ownsRow w.heap.size 39 2 (.slice (some ⟨g, 0, none⟩) rs.length rs.length) rs.length (rs'.flatMap RowV.enc) ∧ rs'.map RowV.key = rs.map RowV.key ∧ RowsIn w' w'.heap.size rs' ∧ Below w.heap.size w w' := by
  obtain ⟨i0, hi0, hz0, hz1, hz2⟩ := info_parts info_Row
  have HOK := Lib.hid hok
  have HIN := Lib.hid hin
  clear hok hin
  go_enter Try.func6, Try.ntmps6
  go_wp2_with (at_make; refine wpList_make_full _ rfl _ _ 26 rfl w.heap.size 39 i0 _ 2 Try.underlying26 hi0 hz0 hz1 _ _ _ _ rs.length rfl rfl rfl rfl (by rw [hz2]; omega) (by unfold maxLen; omega) (Nat.le_refl _) ?_; intro w1 hown hg)
  obtain ⟨zs, hzs⟩ : ∃ zs, zs = (madeCells (Value.agg #[.int .i64 0, .slice none 0 0]).cells (rs.length * 2)).toList := ⟨_, rfl⟩
  rw [← hzs] at hown
  clear hzs
  have hzl : zs.length = rs.length * 2 := hown.1
  have HZ := Lib.hid hzl
  clear hzl
  have hbl : Below w.heap.size w w1 := (Below.refl _ _).grown hg (Nat.le_refl _) (fun k hk => by cases hk)
  have hlt1 : w.heap.size < w1.heap.size := (hown.lt w.heap.size rfl).2
  clear hg
  go_loopw [4] (fun i wr => ∃ (k : Nat) (qs : List RowV), k ≤ rs.length ∧ i = .int .i64 k ∧ wr.ownsRow w.heap.size 39 2 (.slice (some ⟨w.heap.size, 0, none⟩) rs.length rs.length) rs.length (qs.flatMap RowV.enc ++ zs.drop (k * 2)) ∧ Hid (qs.length = k ∧ qs.map RowV.key = (rs.take k).map RowV.key ∧ InLo wr (w.heap.size + 1) qs) ∧ w.heap.size < wr.heap.size ∧ Below w.heap.size w wr)
    (fun i _ => rs.length - (intOf i).toNat)
  case atStart => exact ⟨0, [], Nat.zero_le _, rfl, by simpa using hown, Lib.hid ⟨rfl, by simp, by simp [InLo]⟩, hlt1, hbl⟩
  case round =>
    clear hown hbl hlt1
    obtain ⟨k, qs, hk, rfl, hown, hQ, hgt, hbl⟩ := hrel
    by_cases hlt : k < rs.length
    · obtain ⟨b, off, x, rfl, hb, hx, hc0, hc1⟩ := hr.row hlt
      have hxm := List.mem_of_getElem? hx.out
      have hxo := HOK.out x hxm
      have hxr := (HIN.out x hxm).below hbl (Nat.le_refl _)
      have hxl : x.l.length ≤ 1099511627776 := by have := hxo.1; omega
      have hd0 : wr.cell? ⟨b, off + k * 2, none⟩ = some (.int .i64 x.id) := (hbl.cell (p := ⟨b, off + k * 2, none⟩) hb).trans hc0
      have hd1 : wr.cell? ⟨b, off + k * 2 + 1, none⟩ = some (.slice x.A x.l.length x.c) := (hbl.cell (p := ⟨b, off + k * 2 + 1, none⟩) hb).trans hc1
      clear hr hc0 hc1 hxo
      go_wp2_with fail
      refine (toRow_any _ x.id _ _ _ (hxr.more hbl.size) hxl).mono ?_
      rintro e w2 ⟨g2, rfl, hown', hb2⟩
      have hg2 : wr.heap.size ≤ g2 := (hown'.lt g2 rfl).1
      have hbl2 := hbl.trans (hb2.mono hbl.size)
      have hown2 := own_step hown hb2
      have hz2' := hb2.size
      have hq2 : InLo w2 (w.heap.size + 1) (qs ++ [⟨x.id, some ⟨g2, 0, none⟩, x.l.length, x.l⟩]) := by
        intro r hr
        rcases List.mem_append.1 hr with h | h
        · exact (hQ.out.2.2.step hb2) r h
        · simp at h
          subst h
          exact ⟨⟨g2, rfl, by omega⟩, own_reads hown'⟩
      clear hd0 hd1 hb2 hbl hown hown' hxr
      obtain ⟨u0, hw0⟩ := own_cell (j := k * 2) hown2 (by omega)
      obtain ⟨u1, hw1⟩ := own_cell (j := k * 2 + 1) hown2 (by omega)
      have hf0 := hown2.frozenAt (k * 2)
      have hf1 := hown2.frozenAt (k * 2 + 1)
      obtain ⟨hst, hgr⟩ := own_set2 (.int .i64 x.id) (.slice (some ⟨g2, 0, none⟩) x.l.length x.l.length) hown2 (by rw [flatMap_length_u RowV.enc 2 (fun _ => rfl), hQ.out.1]) (by have := HZ.out; omega)
      have hq3 := Lib.hid (And.intro (show (qs ++ [⟨x.id, some ⟨g2, 0, none⟩, x.l.length, x.l⟩] : List RowV).length = k + 1 by simp [hQ.out.1]) (And.intro (show (qs ++ [⟨x.id, some ⟨g2, 0, none⟩, x.l.length, x.l⟩] : List RowV).map RowV.key = (rs.take (k + 1)).map RowV.key by rw [List.take_add_one, hx.out, List.map_append, List.map_append, hQ.out.2.1]; simp [RowV.key]) ((hq2.set ⟨w.heap.size, k * 2, none⟩ (.int .i64 x.id) (by simp)).set ⟨w.heap.size, k * 2 + 1, none⟩ (.slice (some ⟨g2, 0, none⟩) x.l.length x.l.length) (by simp))))
      rw [show qs.flatMap RowV.enc ++ [.int .i64 x.id, .slice (some ⟨g2, 0, none⟩) x.l.length x.l.length] = (qs ++ [⟨x.id, some ⟨g2, 0, none⟩, x.l.length, x.l⟩] : List RowV).flatMap RowV.enc by simp [RowV.enc], show k * 2 + 2 = (k + 1) * 2 from by omega] at hst
      have hb3 := hbl2.grown hgr hbl2.size (fun q hq => by injection hq with hq; omega)
      have hgt2 : w.heap.size < ((w2.setCell ⟨w.heap.size, k * 2, none⟩ (.int .i64 x.id)).setCell ⟨w.heap.size, k * 2 + 1, none⟩ (.slice (some ⟨g2, 0, none⟩) x.l.length x.l.length)).heap.size := by simp; omega
      clear hown2 hbl2 hgr hQ hq2 hx hxm hg2 hz2' hgt
      go_wp2
      go_roundw
      case rel => exact ⟨k + 1, _, by omega, by go_num, hst, hq3, hgt2, hb3⟩
      case measure => simp [intOf]; omega
    · have hkn : k = rs.length := by omega
      subst hkn
      go_wp2
      go_ret
      have := HZ.out
      have h2 := hQ.out
      rw [List.take_of_length_le (Nat.le_refl _)] at h2
      rw [List.drop_of_length_le (by omega), List.append_nil] at hown
      exact ⟨w.heap.size, qs, rfl, hown, h2.2.1, h2.2.2.rowsIn, hbl⟩
set_option maxHeartbeats 1600000 in
theorem eqRowS_same (w : World) (A A' : Option Addr) (c c' n : Nat) (rs qs : List RowV) (hn : rs.length = n) (hn' : qs.length = n) (hr : Reads w w.heap.size 2 A n (rs.flatMap RowV.enc)) (hin : RowsIn w w.heap.size rs) (hr' : Reads w w.heap.size 2 A' n (qs.flatMap RowV.enc)) (hin' : RowsIn w w.heap.size qs) (hkey : rs.map RowV.key = qs.map RowV.key) (hsm : Small rs) (hl : n ≤ 1099511627776) :
    Calls Try.prog 9 #[.slice A n c, .slice A' n c'] w fun e w' => e = .returned (.bool true) ∧ Below w.heap.size w w' := by
  have HIN := Lib.hid hin
  have HIN' := Lib.hid hin'
  have HK := Lib.hid hkey
  have HS := Lib.hid hsm
  have HN := Lib.hid hn
  have HN' := Lib.hid hn'
  clear hin hin' hkey hsm hn hn'
  go_enter Try.func9, Try.ntmps9
  go_wp2
  go_loopw [5] (fun i wr => ∃ k : Nat, k ≤ n ∧ i = .int .i64 k ∧ Below w.heap.size w wr) (fun i _ => n - (intOf i).toNat)
  case atStart => exact ⟨0, Nat.zero_le _, rfl, Below.refl _ _⟩
  case round =>
    obtain ⟨k, hk, rfl, hbl⟩ := hrel
    by_cases hlt : k < n
    · obtain ⟨b, off, x, rfl, hb, hx, hc0, hc1⟩ := Reads.row (xs := rs) (by rw [HN.out]; exact hr) (by rw [HN.out]; exact hlt)
      obtain ⟨b', off', y, rfl, hb', hy, hc0', hc1'⟩ := Reads.row (xs := qs) (by rw [HN'.out]; exact hr') (by rw [HN'.out]; exact hlt)
      obtain ⟨h1, h2⟩ := key_at HK.out hx.out hy.out
      have hxr := ((HIN.out x (List.mem_of_getElem? hx.out)).below hbl (Nat.le_refl _)).more hbl.size
      have hyr := ((HIN'.out y (List.mem_of_getElem? hy.out)).below hbl (Nat.le_refl _)).more hbl.size
      have hxl : x.l.length ≤ 1099511627776 := by have := (HS.out x (List.mem_of_getElem? hx.out)).1; omega
      have hd0 : wr.cell? ⟨b, off + k * 2, none⟩ = some (.int .i64 x.id) := (hbl.cell (p := ⟨b, off + k * 2, none⟩) hb).trans hc0
      have hd1 : wr.cell? ⟨b, off + k * 2 + 1, none⟩ = some (.slice x.A x.l.length x.c) := (hbl.cell (p := ⟨b, off + k * 2 + 1, none⟩) hb).trans hc1
      have he0 : wr.cell? ⟨b', off' + k * 2, none⟩ = some (.int .i64 y.id) := (hbl.cell (p := ⟨b', off' + k * 2, none⟩) hb').trans hc0'
      have he1 : wr.cell? ⟨b', off' + k * 2 + 1, none⟩ = some (.slice y.A y.l.length y.c) := (hbl.cell (p := ⟨b', off' + k * 2 + 1, none⟩) hb').trans hc1'
      rw [← h1] at he0
      rw [← h2] at he1 hyr
      clear hr hr' hc0 hc1 hc0' hc1' hx hy h1 h2
      go_wp2_with fail
      go_still_tail 8, (by kernel_rfl)
      change wpList _ _ _ _ _ wr.drew
      have hbl2 := hbl.drew
      replace hxr : Reads wr.drew wr.drew.heap.size 3 x.A x.l.length (valCells x.l) := hxr
      replace hyr : Reads wr.drew wr.drew.heap.size 3 y.A x.l.length (valCells x.l) := hyr
      clear hbl hd0 hd1 he0 he1
      generalize wr.drew = w2 at hbl2 hxr hyr ⊢
      go_wp2_with fail
      refine (eqRow_same _ x.id _ _ _ _ x.l hxr hyr hxl).mono ?_
      rintro e w3 ⟨rfl, hb3⟩
      have hbl3 := hbl2.trans (hb3.mono hbl2.size)
      clear hbl2 hb3 hxr hyr
      go_wp2
      go_roundw
      case rel => exact ⟨k + 1, by omega, by go_num, hbl3⟩
      case measure => simp [intOf]; omega
    · go_wp2
      go_ret
      exact ⟨rfl, hbl⟩

end Go.Proofs.Ytpchffcecmoieaa
