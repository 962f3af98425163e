/-
  Contracts of the laws' helpers on lists of rows, and of SameRows.
-/
import Derived.Test.YtgpimlmolcjeoaaGreatDoorRowh
namespace Go.Proofs.YtgpimlmolcjeoaaGreatDoor
open Go.RowKit Go.Deep
set_option linter.unusedVariables false
set_option maxRecDepth 100000

def RowsIn (w : World) (B : Nat) (rs : List RowV) : Prop := ∀ r ∈ rs, Reads w B 3 r.A r.l.length (valCells r.l)
theorem RowsIn.below {w w' : World} {B B1 : Nat} {rs : List RowV} (h : RowsIn w B rs) (hb : Below B1 w w') (hB : B ≤ B1) : RowsIn w' B rs := fun r hr => (h r hr).below hb hB
theorem RowsIn.more {w : World} {B B1 : Nat} {rs : List RowV} (h : RowsIn w B rs) (hB : B ≤ B1) : RowsIn w B1 rs := fun r hr => (h r hr).more hB
def RowV.key (r : RowV) : Int × List V := (r.id, r.l)
def Small (rs : List RowV) : Prop := ∀ r ∈ rs, r.l.length ≤ 1048576 ∧ ∀ x ∈ r.l, x.ok
def sameRows (a b : List RowV) : Bool := decide (a.map RowV.key = b.map RowV.key)
theorem key_at {a b : List RowV} (h : a.map RowV.key = b.map RowV.key) {k : Nat} {x y : RowV} (hx : a[k]? = some x) (hy : b[k]? = some y) : x.id = y.id ∧ x.l = y.l := by
  have h1 : (a.map RowV.key)[k]? = (b.map RowV.key)[k]? := by rw [h]
  simp only [List.getElem?_map, hx, hy, Option.map_some, Option.some.injEq, RowV.key, Prod.mk.injEq] at h1
  exact h1
theorem key_len {a b : List RowV} (h : a.map RowV.key = b.map RowV.key) : a.length = b.length := by
  have := congrArg List.length h
  simpa using this
def KeysTo (a b : List RowV) (k : Nat) : Prop := (a.take k).map RowV.key = (b.take k).map RowV.key
theorem KeysTo.zero (a b : List RowV) : KeysTo a b 0 := by simp [KeysTo]
theorem KeysTo.succ {a b : List RowV} {k : Nat} {x y : RowV} (h : KeysTo a b k) (hx : a[k]? = some x) (hy : b[k]? = some y) (h1 : x.id = y.id) (h2 : x.l = y.l) : KeysTo a b (k + 1) := by
  unfold KeysTo at h ⊢
  rw [List.take_add_one, List.take_add_one, hx, hy, List.map_append, List.map_append, h]
  simp [RowV.key, h1, h2]
theorem KeysTo.done {a b : List RowV} (h : KeysTo a b a.length) (hl : a.length = b.length) : sameRows a b = true := by
  unfold KeysTo at h
  rw [List.take_of_length_le (Nat.le_refl _), List.take_of_length_le (by omega)] at h
  simp [sameRows, h]
theorem rows_len {a b : List RowV} (h : ¬ a.length = b.length) : sameRows a b = false := decide_eq_false fun e => h (key_len e)
theorem rows_diff {a b : List RowV} {k : Nat} {x y : RowV} (hx : a[k]? = some x) (hy : b[k]? = some y) (h : sameRow x.id x.l y.id y.l = false) : sameRows a b = false := decide_eq_false fun e => by
  obtain ⟨h1, h2⟩ := key_at e hx hy
  simp [sameRow, sameVals, h1, h2] at h
theorem small_key {a b : List RowV} (h : a.map RowV.key = b.map RowV.key) (hs : Small b) : Small a := by
  intro r hr
  have h1 : RowV.key r ∈ a.map RowV.key := List.mem_map_of_mem hr
  rw [h] at h1
  obtain ⟨q, hq, he⟩ := List.mem_map.1 h1
  have h2 : q.l = r.l := by simp [RowV.key] at he; exact he.2
  have := hs q hq
  rwa [h2] at this
theorem same_keys {a b c d : List RowV} (h1 : a.map RowV.key = b.map RowV.key) (h2 : c.map RowV.key = d.map RowV.key) : sameRows a c = sameRows b d := by simp [sameRows, h1, h2]

theorem info_Row : (Tryz.prog.info? 27).map (fun i => (i.zero, i.size, i.bytes)) = some (some (.agg #[.int .i64 0, .slice none 0 0]), 2, 32) := by kernel_rfl
theorem set_two (m zs : List Value) (j : Nat) (a b : Value) (hm : m.length = j) (hj : j + 1 < zs.length) : ((m ++ zs.drop j).set j a).set (j + 1) b = m ++ [a, b] ++ zs.drop (j + 2) := by
  rw [set_at m zs j a hm (by omega), set_at (m ++ [a]) zs (j + 1) b (by simp [hm]) (by omega)]
  simp
theorem own_set2 {w : World} {base g n cap : Nat} {e : TypeId} {size : Nat} {m zs : List Value} {j : Nat} (a b : Value) (h : w.ownsRow base e size (.slice (some ⟨g, 0, none⟩) n cap) n (m ++ zs.drop j)) (hm : m.length = j) (hj : j + 1 < zs.length) :
    ((w.setCell ⟨g, j, none⟩ a).setCell ⟨g, j + 1, none⟩ b).ownsRow base e size (.slice (some ⟨g, 0, none⟩) n cap) n (m ++ [a, b] ++ zs.drop (j + 2)) ∧ w.grownBy ((w.setCell ⟨g, j, none⟩ a).setCell ⟨g, j + 1, none⟩ b) (some g) := by
  obtain ⟨h1, g1⟩ := h.stored j a
  obtain ⟨h2, g2⟩ := h1.stored (j + 1) b
  rw [set_two m zs j a b hm hj] at h2
  exact ⟨h2, g1.trans g2⟩
def InLo (w : World) (lo : Nat) (rs : List RowV) : Prop := ∀ r ∈ rs, (∃ b, r.A = some ⟨b, 0, none⟩ ∧ lo ≤ b) ∧ Reads w w.heap.size 3 r.A r.l.length (valCells r.l)
theorem InLo.step {w w' : World} {lo : Nat} {rs : List RowV} (h : InLo w lo rs) (hb : Below w.heap.size w w') : InLo w' lo rs := fun r hr => ⟨(h r hr).1, (h r hr).2.step hb⟩
theorem InLo.set {w : World} {lo : Nat} {rs : List RowV} (h : InLo w lo rs) (p : Addr) (u : Value) (hp : p.block < lo) : InLo (w.setCell p u) lo rs := by
  intro r hr
  obtain ⟨⟨b, hA, hb⟩, hR⟩ := h r hr
  refine ⟨⟨b, hA, hb⟩, hR.1, fun hn => ?_⟩
  obtain ⟨b', off, e, hlt, hc⟩ := hR.2 hn
  refine ⟨b', off, e, by simpa using hlt, fun j v hj => ?_⟩
  rw [hA] at e
  injection e with e
  injection e with e1 e2
  subst e1
  exact (World.cell?_setCell_far _ _ _ _ (by simp; omega)).trans (hc j v hj)
theorem InLo.rowsIn {w : World} {lo : Nat} {rs : List RowV} (h : InLo w lo rs) : RowsIn w w.heap.size rs := fun r hr => (h r hr).2
set_option maxHeartbeats 1600000 in
theorem impl_SameRows (w : World) (A : Option Addr) (c n : Nat) (a : List RowV) (hn : a.length = n) (hr : Reads w w.heap.size 2 A n (a.flatMap RowV.enc)) (hin : RowsIn w w.heap.size a) (hsm : Small a) (hl : n ≤ 1099511627776) (A' : Option Addr) (c' n' : Nat) (b : List RowV) (hn' : b.length = n') (hr' : Reads w w.heap.size 2 A' n' (b.flatMap RowV.enc)) (hin' : RowsIn w w.heap.size b) (hsm' : Small b) (hl' : n' ≤ 1099511627776) :
    Calls Tryz.prog 22 #[.slice A n c, .slice A' n' c'] w fun e w' => e = .returned (.bool (sameRows a b)) ∧ Below w.heap.size w w' := by
  have HIN := Lib.hid hin
  have HIN' := Lib.hid hin'
  have HS := Lib.hid hsm
  have HS' := Lib.hid hsm'
  have HN := Lib.hid hn
  have HN' := Lib.hid hn'
  clear hin hin' hsm hsm' hn hn'
  by_cases hlen : n = n'
  case neg =>
    have ho := Lib.hid (rows_len (a := a) (b := b) (by rw [HN.out, HN'.out]; exact hlen))
    have hne : ((n : Int) != (n' : Int)) = true := by simp; omega
    clear hr hr'
    go_enter Tryz.func22, Tryz.ntmps22
    go_wp2
    go_ret
    exact ⟨ret_bool ho.out.symm, Below.refl _ _⟩
  subst hlen
  go_enter Tryz.func22, Tryz.ntmps22
  go_wp2
  go_loopw [13] (fun i wr => ∃ k : Nat, k ≤ n ∧ i = .int .i64 k ∧ Hid (KeysTo a b k) ∧ Below w.heap.size w wr) (fun i _ => n - (intOf i).toNat)
  case atStart => exact ⟨0, Nat.zero_le _, rfl, Lib.hid (KeysTo.zero a b), Below.refl _ _⟩
  case round =>
    obtain ⟨k, hk, rfl, hKT, hbl⟩ := hrel
    by_cases hlt : k < n
    · obtain ⟨p, off, x, rfl, hb, hx, hc0, hc1⟩ := Reads.row (xs := a) (by rw [HN.out]; exact hr) (by rw [HN.out]; exact hlt)
      obtain ⟨p', off', y, rfl, hb', hy, hc0', hc1'⟩ := Reads.row (xs := b) (by rw [HN'.out]; exact hr') (by rw [HN'.out]; exact hlt)
      have hxr := ((HIN.out x (List.mem_of_getElem? hx.out)).below hbl (Nat.le_refl _)).more hbl.size
      have hyr := ((HIN'.out y (List.mem_of_getElem? hy.out)).below hbl (Nat.le_refl _)).more hbl.size
      obtain ⟨hx1, hx2⟩ := HS.out x (List.mem_of_getElem? hx.out)
      obtain ⟨hy1, hy2⟩ := HS'.out y (List.mem_of_getElem? hy.out)
      have hd0 : wr.cell? ⟨p, off + k * 2, none⟩ = some (.int .i64 x.id) := (hbl.cell (p := ⟨p, off + k * 2, none⟩) hb).trans hc0
      have hd1 : wr.cell? ⟨p, off + k * 2 + 1, none⟩ = some (.slice x.A x.l.length x.c) := (hbl.cell (p := ⟨p, off + k * 2 + 1, none⟩) hb).trans hc1
      have he0 : wr.cell? ⟨p', off' + k * 2, none⟩ = some (.int .i64 y.id) := (hbl.cell (p := ⟨p', off' + k * 2, none⟩) hb').trans hc0'
      have he1 : wr.cell? ⟨p', off' + k * 2 + 1, none⟩ = some (.slice y.A y.l.length y.c) := (hbl.cell (p := ⟨p', off' + k * 2 + 1, none⟩) hb').trans hc1'
      clear hr hr' hc0 hc1 hc0' hc1'
      go_wp2_with fail
      go_still_tail 8, (by kernel_rfl)
      change wpList _ _ _ _ _ wr.drew
      have hbl2 := hbl.drew
      replace hxr : Reads wr.drew wr.drew.heap.size 3 x.A x.l.length (valCells x.l) := hxr
      replace hyr : Reads wr.drew wr.drew.heap.size 3 y.A y.l.length (valCells y.l) := hyr
      clear hbl hd0 hd1 he0 he1
      generalize wr.drew = w2 at hbl2 hxr hyr ⊢
      go_wp2_with fail
      refine (impl_SameRow _ x.id _ _ x.l hxr (by omega) hx2 y.id _ _ y.l hyr (by omega) hy2).mono ?_
      rintro e w3 ⟨rfl, hb3⟩
      have hbl3 := hbl2.trans (hb3.mono hbl2.size)
      clear hbl2 hb3 hxr hyr hx1 hx2 hy1 hy2
      cases hsr : sameRow x.id x.l y.id y.l
      · have ho := Lib.hid (rows_diff hx.out hy.out hsr)
        clear hx hy hKT
        go_wp2
        go_ret
        exact ⟨ret_bool ho.out.symm, hbl3⟩
      · have hkt2 : Hid (KeysTo a b (k + 1)) := Lib.hid (by
          simp only [sameRow, sameVals, Bool.and_eq_true, decide_eq_true_eq] at hsr
          exact hKT.out.succ hx.out hy.out hsr.1 hsr.2)
        clear hx hy hKT
        go_wp2
        go_roundw
        case rel => exact ⟨k + 1, by omega, by go_num, hkt2, hbl3⟩
        case measure => simp [intOf]; omega
    · have hkn : k = n := by omega
      have ho := Lib.hid (KeysTo.done (a := a) (b := b) (by rw [HN.out, ← hkn]; exact hKT.out) (by rw [HN.out, HN'.out]))
      go_wp2
      go_ret
      exact ⟨ret_bool ho.out.symm, hbl⟩

end Go.Proofs.YtgpimlmolcjeoaaGreatDoor
