/-
  What the reference draws of rows: l4Rows.
-/
import Derived.Test.YtgpimlmolcjeoaaGreatDoorRdraw
import Derived.Test.YtgpimlmolcjeoaaGreatDoorKept
import Derived.Test.YtgpimlmolcjeoaaGreatDoorRows2
namespace Go.Proofs.YtgpimlmolcjeoaaGreatDoor
open Go.RowKit
set_option linter.unusedVariables false
set_option maxRecDepth 100000

/-- A row whose values lie in a block from lo on. -/
def RowHas (w : World) (lo : Nat) (r : RowV) : Prop := w.ownsRow lo 49 3 (.slice r.A r.l.length r.c) r.l.length (valCells r.l) ∧ (∀ x ∈ r.l, x.ok) ∧ I64 r.id ∧ r.l.length ≤ 4
def RowsHave (w : World) (lo : Nat) (rs : List RowV) : Prop := ∀ r ∈ rs, RowHas w lo r
theorem RowsHave.step {w w' : World} {lo : Nat} {rs : List RowV} (h : RowsHave w lo rs) (hb : Below w.heap.size w w') : RowsHave w' lo rs := fun r hr => ⟨own_step (h r hr).1 hb, (h r hr).2⟩
theorem RowsHave.cur {w w' : World} {lo p : Nat} {rs : List RowV} (h : RowsHave w lo rs) (hg : w.grownBy w' (some p)) (hp : p < lo) : RowsHave w' lo rs := fun r hr => ⟨own_cur (h r hr).1 hg hp, (h r hr).2⟩
theorem RowsHave.typed {w w' : World} {lo : Nat} {rs : List RowV} (h : RowsHave w lo rs) (hk : Kept 27 w w') : RowsHave w' lo rs := fun r hr => ⟨own_typed (h r hr).1 hk (by decide), (h r hr).2⟩
theorem RowsHave.lower {w : World} {lo lo' : Nat} {rs : List RowV} (h : RowsHave w lo rs) (hl : lo' ≤ lo) : RowsHave w lo' rs := fun r hr => ⟨own_lower (h r hr).1 hl, (h r hr).2⟩
theorem RowsHave.snoc {w : World} {lo : Nat} {rs : List RowV} {r : RowV} (h : RowsHave w lo rs) (hr : RowHas w lo r) : RowsHave w lo (rs ++ [r]) := by
  intro q hq
  rcases List.mem_append.1 hq with h1 | h1
  · exact h q h1
  · simp at h1; subst h1; exact hr
theorem RowsHave.rowsIn {w : World} {lo : Nat} {rs : List RowV} (h : RowsHave w lo rs) : RowsIn w w.heap.size rs := fun r hr => own_reads (h r hr).1
theorem RowsHave.small {w : World} {lo : Nat} {rs : List RowV} (h : RowsHave w lo rs) : Small rs := fun r hr => ⟨by have := (h r hr).2.2.2; omega, (h r hr).2.1⟩
theorem rowCells_app (rs : List RowV) (r : RowV) : rs.flatMap RowV.enc ++ [.int .i64 r.id, .slice r.A r.l.length r.c] = (rs ++ [r]).flatMap RowV.enc := by simp [RowV.enc]
def stepS : List Int := [1, 1, 1, 2, 5]
set_option maxHeartbeats 1600000 in
theorem l4Rows_any (w : World) (p : Nat) (hc : Cur w p) (lo hi n c : Nat) (A : Option Addr) (xs : List Int) (hcols : Owned w lo hi 3 1 A n c (intCells xs)) (hn : xs.length = n) (hp0 : p < lo) (hhi : hi ≤ w.heap.size) (hn3 : n ≤ 3) (most : Nat) (hm : most ≤ 1000) :
    Calls Tryz.prog 30 #[.pointer (some ⟨p, 0, none⟩), .slice A n c, .int .i64 (most : Int)] w fun e w' => ∃ (A' : Option Addr) (c' : Nat) (rs : List RowV), e = .returned (.slice A' rs.length c') ∧ rs.length ≤ most ∧ (∀ r ∈ rs, r.l.length = n) ∧ RowsHave w' w.heap.size rs ∧
      w'.ownsRow w.heap.size 27 2 (.slice A' rs.length c') rs.length (rs.flatMap RowV.enc) ∧ Cur w' p ∧ w.grownBy w' (some p) := by
  obtain ⟨i0, hi0, hz0, hz1, hz2⟩ := info_parts info_Row
  have hp := hc.lt
  have HN := Lib.hid hn
  clear hn
  have hcW := hc.alloc (.cells #[] 27)
  have hgW := grown_alloc w (.cells #[] 27) (some p)
  have hoW : Owned (w.alloc (.cells #[] 27)) lo hi 3 1 A n c (intCells xs) := hcols.below ((Below.refl w.heap.size w).alloc (Nat.le_refl _) _) hhi
  have hv0 := own_empty (w := w) (base := w.heap.size) (e := 27) (size := 2) (Nat.le_refl _)
  clear hcols hc
  go_enter Tryz.func30, Tryz.ntmps30
  go_wp2_with fail
  refine (l1Below_any _ p hcW 4 (by omega) (by omega)).mono ?_
  rintro e w1 ⟨q0, rfl, hq0, hc1, hg1⟩
  have hv1 := own_cur hv0 hg1 hp
  have ho1 := hoW.cur hg1 hp0
  have hgg1 := hgW.trans hg1
  clear hv0 hoW hcW hgW hg1
  go_wp2_with fail
  have hl1 : ((most : Int) + 1) = ((most + 1 : Nat) : Int) := by omega
  rw [hl1]
  refine (l1Below_any _ p hc1 (most + 1) (by omega) (by omega)).mono ?_
  rintro e w2 ⟨m0, rfl, hm0, hc2, hg2⟩
  have hv2 := own_cur hv1 hg2 hp
  have ho2 := ho1.cur hg2 hp0
  have hgg2 := hgg1.trans hg2
  have hq64 : I64 (q0 : Int) := ⟨by omega, by omega⟩
  clear hv1 ho1 hc1 hgg1 hg2 hl1
  go_wp2
  go_loopw [7, 8, 9] (fun o d i wr => ∃ (j k : Nat) (id : Int) (rs : List RowV) (A' : Option Addr) (c' : Nat), j + k ≤ most ∧ i = .int .i64 (k : Int) ∧ d = .int .i64 id ∧ I64 id ∧ o = .slice A' j c' ∧ wr.ownsRow w.heap.size 27 2 (.slice A' j c') j (rs.flatMap RowV.enc) ∧ Owned wr lo hi 3 1 A n c (intCells xs) ∧ Hid (rs.length = j ∧ (∀ r ∈ rs, r.l.length = n) ∧ RowsHave wr w.heap.size rs) ∧ Cur wr p ∧ w.grownBy wr (some p)) (fun _ _ i _ => (intOf i).toNat)
  case atStart => exact ⟨0, m0, q0, [], _, _, by omega, rfl, rfl, hq64, rfl, hv2, ho2, Lib.hid ⟨rfl, by simp, by simp [RowsHave]⟩, hc2, hgg2⟩
  case round =>
    clear hv2 ho2 hc2 hgg2 hq64
    obtain ⟨j, k, id, rs, A', c', hjk, rfl, rfl, hid, rfl, hown, hcols, HR, hc1, hg1⟩ := hrel
    rcases (show k = 0 ∨ 0 < k by omega) with rfl | hk
    · obtain ⟨h1, h2, h3⟩ := HR.out
      subst h1
      go_wp2
      go_ret
      exact ⟨_, _, rs, rfl, by omega, h2, h3, hown, hc1, hg1⟩
    · obtain ⟨k, rfl⟩ : ∃ k', k = k' + 1 := ⟨k - 1, by omega⟩
      go_wp2_with fail
      refine (l4Vals_any _ p hc1 lo hi n c A xs hcols HN.out hp0 (Nat.le_trans hhi hg1.size) hn3).mono ?_
      rintro e w3 ⟨A3, c3, vs, rfl, hvl, hvo, hown3, hc3, hg3⟩
      have hownR := own_cur hown hg3 hp
      have hcols3 := hcols.cur hg3 hp0
      have hgg3 := hg1.trans hg3
      have hsz := hgg3.size
      have hH3 := HR.out.2.2.cur hg3 hp
      have hval : RowHas w3 w.heap.size ⟨id, A3, c3, vs⟩ := ⟨by rw [← hvl] at hown3; exact own_lower hown3 hg1.size, hvo, hid, by simp only; omega⟩
      have HR3 := Lib.hid (And.intro (hH3.snoc hval) (And.intro HR.out.1 (And.intro HR.out.2.1 hvl)))
      clear hown hc1 hg1 hg3 hcols HR hH3 hval hown3
      go_wp2_with (at_builtin; refine append_one_k rfl (.tmp 21) (.tmp 27) 33 rfl w.heap.size 27 i0 _ 2 32 Tryz.underlying33 hi0 hz0 hz1 hz2 rfl (by omega) (by omega) A' j c' _ rfl hownR [.int .i64 id, .slice A3 n c3] _ rfl (by first | rfl | simp) rfl (by simp [Value.oneCell']) hsz (by omega) ?_; intro A4 c4 w4 hown4 hb4 hk4)
      have hcols4 := hcols3.below hb4 hhi
      have hc4 := hc3.below' hb4 hp
      have hg4 := grown_below hgg3 hb4
      obtain ⟨hr1, hr2, hr3, hr4⟩ := HR3.out
      have HR4 := Lib.hid (And.intro (show (rs ++ [(⟨id, A3, c3, vs⟩ : RowV)]).length = j + 1 by simp [hr2]) (And.intro (show ∀ r ∈ rs ++ [(⟨id, A3, c3, vs⟩ : RowV)], r.l.length = n by
        intro r hr
        rcases List.mem_append.1 hr with h | h
        · exact hr3 r h
        · simp at h; subst h; exact hr4) (hr1.typed hk4)))
      rw [show rs.flatMap RowV.enc ++ [.int .i64 id, .slice A3 n c3] = (rs ++ [(⟨id, A3, c3, vs⟩ : RowV)]).flatMap RowV.enc by rw [← rowCells_app, hr4]] at hown4
      clear hownR hcols3 hc3 hgg3 HR3 hr1 hr2 hr3 hr4 hb4 hk4 hsz
      go_wp2_with fail
      refine (l1Int_lit _ p hc4 3 5 stepS rfl (by omega) (by omega) (by simp [stepS, I64])).mono ?_
      rintro e w5 ⟨y, rfl, hy, hc5, hg5⟩
      have hown5 := own_cur hown4 hg5 hp
      have hcols5 := hcols4.cur hg5 hp0
      have hgg5 := hg4.trans hg5
      have HR5 := Lib.hid (And.intro HR4.out.1 (And.intro HR4.out.2.1 (HR4.out.2.2.cur hg5 hp)))
      have hw64 := wrap64_I64 (id + y)
      clear hown4 hcols4 hg4 hg5 hc4 HR4
      go_wp2
      go_roundw
      case rel => exact ⟨j + 1, k, wrap64 (id + y), _, _, _, by omega, by go_num, rfl, hw64, rfl, hown5, hcols5, HR5, hc5, hgg5⟩
      case measure => simp [intOf]
end Go.Proofs.YtgpimlmolcjeoaaGreatDoor
