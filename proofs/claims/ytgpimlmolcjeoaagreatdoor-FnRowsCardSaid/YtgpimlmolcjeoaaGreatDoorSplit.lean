/-
  Contracts of the cut of a text at its blanks: the reference's l4Split, the library's strings.Split.
-/
import Derived.Test.YtgpimlmolcjeoaaGreatDoorSplitp
import Derived.Test.YtgpimlmolcjeoaaGreatDoorNtext
import Derived.Test.YtgpimlmolcjeoaaGreatDoorValOk
import Derived.Test.YtgpimlmolcjeoaaGreatDoorThree
namespace Go.Proofs.YtgpimlmolcjeoaaGreatDoor
open Go.RowKit
set_option linter.unusedVariables false
set_option maxRecDepth 100000

def MaxL (w : World) : Prop := ∃ m, w.cell? ⟨0, 0, none⟩ = some (.int .i64 m)
theorem MaxL.below {w w' : World} (h : MaxL w) (hb : Below w.heap.size w w') : MaxL w' := by
  obtain ⟨m, hm⟩ := h
  exact ⟨m, cell_keep hb hm⟩
theorem split_any (w : World) (s : ByteArray) (hs : s.size ≤ 1048576) (hM : MaxL w) :
    Calls Tryz.prog 35 #[.string s, .string ⟨#[32]⟩] w fun e w' => e = .returned (.slice (some ⟨w.heap.size, 0, none⟩) (wordsOf s).length (wordsOf s).length) ∧
      w'.ownsRow w.heap.size 9 1 (.slice (some ⟨w.heap.size, 0, none⟩) (wordsOf s).length (wordsOf s).length) (wordsOf s).length (strCells (wordsOf s)) ∧ Below w.heap.size w w' := by
  obtain ⟨m, hm⟩ := hM
  refine (Tryz.strings_Split s ⟨#[32]⟩ m w (by omega) hm (by decide)).mono ?_
  rintro e w' ⟨rfl, rfl⟩
  have hlen := words_length s
  rw [words_count, words_lib]
  refine ⟨rfl, ?_, (Below.refl _ _).alloc (Nat.le_refl _) _⟩
  have h := World.ownsRow_lit (base := w.heap.size) (e := 9) (size := 1) w ((wordsOf s).map Value.string).toArray (wordsOf s).length (Nat.le_refl _) (by unfold maxLen; omega) (by simp)
  exact h
set_option maxHeartbeats 1600000 in
theorem l4Split_any (w : World) (s : ByteArray) (hs : s.size ≤ 1048576) :
    Calls Tryz.prog 37 #[.string s, .int .u8 32] w fun e w' => ∃ A' c', e = .returned (.slice A' (wordsOf s).length c') ∧
      w'.ownsRow w.heap.size 9 1 (.slice A' (wordsOf s).length c') (wordsOf s).length (strCells (wordsOf s)) ∧ Below w.heap.size w w' := by
  obtain ⟨i0, hi0, hz0, hz1, hz2⟩ := info_parts info_String
  go_enter Tryz.func37, Tryz.ntmps37
  go_wp2
  go_loopw [5, 6, 7] (fun o p i wr => ∃ (j f n : Nat) (A' : Option Addr) (c' : Nat) (ws : List ByteArray), i = .int .i64 (j : Int) ∧ p = .int .i64 (f : Int) ∧ o = .slice A' n c' ∧ j ≤ s.size + 1 ∧ f ≤ s.size + 1 ∧ n ≤ j ∧ wr.ownsRow w.heap.size 9 1 (.slice A' n c') n (strCells ws) ∧ Hid (SplitTo s ws f j ∧ n = ws.length) ∧ Below w.heap.size w wr) (fun _ _ i _ => s.size + 1 - (intOf i).toNat)
  case atStart => exact ⟨0, 0, 0, _, _, [], rfl, rfl, rfl, Nat.zero_le _, Nat.zero_le _, Nat.le_refl _, own_empty (Nat.le_refl _), Lib.hid ⟨SplitTo.zero s, rfl⟩, Below.alloc0 (Below.refl _ _) _⟩
  case round =>
    obtain ⟨j, f, n, A', c', ws, rfl, rfl, rfl, hj, hf, hn, hown, HX, hbl⟩ := hrel
    have hsz := hbl.size
    by_cases hlt : j < s.size
    · have hfj := (HX.out.1.1 (by omega)).1
      have hx := Lib.hid (get_data s j hlt)
      have hje : ((j : Int) == (s.size : Int)) = false := by simp; omega
      by_cases h32 : s[j].toNat = 32
      · have h32b : ((s[j].toNat : Int) == 32) = true := by rw [h32]; rfl
        have hxe : s[j] = 32 := UInt8.toNat_inj.1 h32
        have HX2 := Lib.hid (And.intro (HX.out.1.hit hlt (by rw [hx.out, hxe])) (show n + 1 = (ws ++ [s.extract f j]).length by simp [HX.out.2]))
        clear HX hx h32 hxe
        go_wp2_with (at_builtin; refine append_one rfl (.tmp 26) (.tmp 31) 59 rfl w.heap.size 9 i0 _ 1 16 Tryz.underlying59 hi0 hz0 hz1 hz2 rfl (by omega) (by omega) A' n c' _ rfl hown [.string (s.extract f j)] _ rfl (by first | rfl | simp) rfl (by simp [Value.oneCell']) hsz (by omega) ?_; intro A2 c2 w2 hown2 hb2)
        have hbl2 := hbl.trans hb2
        rw [show strCells ws ++ [.string (s.extract f j)] = strCells (ws ++ [s.extract f j]) by simp [strCells]] at hown2
        clear hown hbl hb2
        go_wp2
        go_roundw
        case rel => exact ⟨j + 1, j + 1, n + 1, _, _, _, by go_num, by go_num, rfl, by omega, by omega, by omega, hown2, HX2, hbl2⟩
        case measure => simp [intOf]; omega
      · have h32b : ((s[j].toNat : Int) == 32) = false := beq_eq_false_iff_ne.2 (by omega)
        have HX2 := Lib.hid (And.intro (HX.out.1.skip hlt hx.out (fun e => h32 (by rw [e]; rfl))) HX.out.2)
        clear HX hx h32
        go_wp2
        go_roundw
        case rel => exact ⟨j + 1, f, n, A', c', ws, by go_num, rfl, rfl, by omega, by omega, by omega, hown, HX2, hbl⟩
        case measure => simp [intOf]; omega
    · by_cases hje : j = s.size
      · subst hje
        have hfj := (HX.out.1.1 (Nat.le_refl _)).1
        have HX2 := Lib.hid (And.intro HX.out.1.last (show n + 1 = (ws ++ [s.extract f s.size]).length by simp [HX.out.2]))
        clear HX
        go_wp2_with (at_builtin; refine append_one rfl (.tmp 26) (.tmp 31) 59 rfl w.heap.size 9 i0 _ 1 16 Tryz.underlying59 hi0 hz0 hz1 hz2 rfl (by omega) (by omega) A' n c' _ rfl hown [.string (s.extract f s.size)] _ rfl (by first | rfl | simp) rfl (by simp [Value.oneCell']) hsz (by omega) ?_; intro A2 c2 w2 hown2 hb2)
        have hbl2 := hbl.trans hb2
        rw [show strCells ws ++ [.string (s.extract f s.size)] = strCells (ws ++ [s.extract f s.size]) by simp [strCells]] at hown2
        clear hown hbl hb2
        go_wp2
        go_roundw
        case rel => exact ⟨s.size + 1, s.size + 1, n + 1, _, _, _, by go_num, by go_num, rfl, by omega, by omega, by omega, hown2, HX2, hbl2⟩
        case measure => (first | (simp [intOf]; done) | (simp [intOf]; omega))
      · have hw := HX.out.1.done (by omega)
        have hwn := HX.out.2
        subst hw
        subst hwn
        clear HX
        go_wp2
        go_ret
        exact ⟨_, _, rfl, hown, hbl⟩
end Go.Proofs.YtgpimlmolcjeoaaGreatDoor
