/-
  The reference's copy of a list of rows: l4All.
-/
import Derived.Test.YtgpimlmolcjeoaaGreatDoorRcopy
namespace Go.Proofs.YtgpimlmolcjeoaaGreatDoor
open Go.RowKit
set_option linter.unusedVariables false
set_option maxRecDepth 100000

theorem keys_snoc {rs qs : List RowV} {k : Nat} {x q : RowV} (h : qs.map RowV.key = (rs.take k).map RowV.key) (hx : rs[k]? = some x) (h1 : q.id = x.id) (h2 : q.l = x.l) : (qs ++ [q]).map RowV.key = (rs.take (k + 1)).map RowV.key := by
  rw [List.take_add_one, hx, List.map_append, List.map_append, h]
  simp [RowV.key, h1, h2]
set_option maxHeartbeats 1600000 in
theorem l4All_any (w : World) (A : Option Addr) (n c : Nat) (rs : List RowV) (hlen : rs.length = n) (hn : n ≤ 1000) (hr : Reads w w.heap.size 2 A n (rs.flatMap RowV.enc)) (lo : Nat) (hH : RowsHave w lo rs) (hpos : ∀ r ∈ rs, 0 < r.l.length) :
    Calls Tryz.prog 39 #[.slice A n c] w fun e w' => ∃ (A' : Option Addr) (c' : Nat) (qs : List RowV), e = .returned (.slice A' n c') ∧ qs.length = n ∧ qs.map RowV.key = rs.map RowV.key ∧ RowsHave w' w.heap.size qs ∧
      w'.ownsRow w.heap.size 27 2 (.slice A' n c') n (qs.flatMap RowV.enc) ∧ Below w.heap.size w w' := by
  obtain ⟨i0, hi0, hz0, hz1, hz2⟩ := info_parts info_Row
  have HL := Lib.hid hlen
  have HH := Lib.hid (And.intro hH hpos)
  clear hlen hH hpos
  have hv0 := own_empty (w := w) (base := w.heap.size) (e := 27) (size := 2) (Nat.le_refl _)
  have hb0 := (Below.refl w.heap.size w).alloc (Nat.le_refl _) (.cells #[] 27)
  go_enter Tryz.func39, Tryz.ntmps39
  go_wp2
  go_loopw [3, 4] (fun o i wr => ∃ (k : Nat) (qs : List RowV) (A' : Option Addr) (c' : Nat), k ≤ n ∧ i = .int .i64 (k : Int) ∧ o = .slice A' k c' ∧ wr.ownsRow w.heap.size 27 2 (.slice A' k c') k (qs.flatMap RowV.enc) ∧ Hid (qs.length = k ∧ qs.map RowV.key = (rs.take k).map RowV.key ∧ RowsHave wr w.heap.size qs) ∧ Below w.heap.size w wr) (fun _ i _ => n - (intOf i).toNat)
  case atStart => exact ⟨0, [], _, _, Nat.zero_le _, rfl, rfl, hv0, Lib.hid ⟨rfl, by simp, by simp [RowsHave]⟩, hb0⟩
  case round =>
    clear hv0 hb0
    obtain ⟨k, qs, A', c', hk, rfl, rfl, hown, HQ, hbl⟩ := hrel
    by_cases hlt : k < n
    · obtain ⟨b, off, x, hxA, hb, hx, hc0, hc1⟩ := Reads.row (xs := rs) (by rw [HL.out]; exact hr) (by rw [HL.out]; exact hlt)
      subst hxA
      have hxm := List.mem_of_getElem? hx.out
      obtain ⟨hxo, hxk, hxi, hx4⟩ := HH.out.1 x hxm
      have hxp := HH.out.2 x hxm
      obtain ⟨g, cap, hf, hgb, hgl⟩ := hxo.form hxp
      have hg1 : x.A = some ⟨g, 0, none⟩ := by injection hf
      have hxr : Reads wr wr.heap.size 3 (some ⟨g, 0, none⟩) x.l.length (valCells x.l) := by rw [← hg1]; exact ((own_reads hxo).below hbl (Nat.le_refl _)).more hbl.size
      have hd0 : wr.cell? ⟨b, off + k * 2, none⟩ = some (.int .i64 x.id) := (hbl.cell (p := ⟨b, off + k * 2, none⟩) hb).trans hc0
      have hd1 : wr.cell? ⟨b, off + k * 2 + 1, none⟩ = some (.slice (some ⟨g, 0, none⟩) x.l.length x.c) := by rw [← hg1]; exact (hbl.cell (p := ⟨b, off + k * 2 + 1, none⟩) hb).trans hc1
      clear hr hc0 hc1 hf hgb hgl hxo hg1
      go_wp2_with fail
      refine (l4Copy_any wr x.id g x.c x.l hxp (by omega) hxr).mono ?_
      rintro e w3 ⟨A3, c3, rfl, hown3, hb3⟩
      have hsz := hbl.size
      have hownR := own_step hown hb3
      have hbl3 := hbl.trans (hb3.mono hbl.size)
      have hH3 := HQ.out.2.2.step hb3
      have hval : RowHas w3 w.heap.size ⟨x.id, A3, c3, x.l⟩ := ⟨own_lower hown3 hbl.size, hxk, hxi, hx4⟩
      have hkey := Lib.hid (keys_snoc (q := ⟨x.id, A3, c3, x.l⟩) HQ.out.2.1 hx.out rfl rfl)
      have HR3 := Lib.hid (And.intro (hH3.snoc hval) (And.intro HQ.out.1 True.intro))
      have hsz3 := hbl3.size
      have hbB := (Below.refl w3.heap.size w3).alloc (Nat.le_refl _) (.cells #[.int .i64 x.id, .slice A3 x.l.length c3] 27)
      have hownB := own_step hownR hbB
      have HB3 := Lib.hid (And.intro (HR3.out.1.step hbB) (And.intro HR3.out.2.1 True.intro))
      have hblB := hbl3.trans (hbB.mono hbl3.size)
      clear hown hbl hown3 hb3 HQ hH3 hval HR3 hbl3 hownR hxr hd0 hd1 hbB
      go_wp2_with (at_builtin; refine append_one_k rfl (.tmp 18) (.tmp 20) 33 rfl w.heap.size 27 i0 _ 2 32 Tryz.underlying33 hi0 hz0 hz1 hz2 rfl (by omega) (by omega) A' k c' _ rfl hownB [.int .i64 x.id, .slice A3 x.l.length c3] _ rfl (by first | rfl | simp) rfl (by simp [Value.oneCell']) hblB.size (by omega) ?_; intro A4 c4 w4 hown4 hb4 hk4)
      have hbl4 := hblB.trans hb4
      obtain ⟨hr1, hr2, -⟩ := HB3.out
      have HR4 := Lib.hid (And.intro (show (qs ++ [(⟨x.id, A3, c3, x.l⟩ : RowV)]).length = k + 1 by simp [hr2]) (And.intro hkey.out (hr1.typed hk4)))
      rw [show qs.flatMap RowV.enc ++ [.int .i64 x.id, .slice A3 x.l.length c3] = (qs ++ [(⟨x.id, A3, c3, x.l⟩ : RowV)]).flatMap RowV.enc from rowCells_app qs ⟨x.id, A3, c3, x.l⟩] at hown4
      clear hownB HB3 hr1 hr2 hb4 hk4 hsz hsz3 hblB hkey hx hxk hxm
      go_wp2
      go_roundw
      case rel => exact ⟨k + 1, _, _, _, by omega, by go_num, rfl, hown4, HR4, hbl4⟩
      case measure => simp [intOf]; omega
    · have hkn : k = n := by omega
      subst hkn
      obtain ⟨h1, h2, h3⟩ := HQ.out
      rw [List.take_of_length_le (by have := HL.out; omega)] at h2
      have HF := Lib.hid (And.intro h1 h2)
      clear h1 h2
      go_wp2
      go_ret
      exact ⟨_, _, qs, rfl, HF.out.1, HF.out.2, h3, hown, hbl⟩
end Go.Proofs.YtgpimlmolcjeoaaGreatDoor
