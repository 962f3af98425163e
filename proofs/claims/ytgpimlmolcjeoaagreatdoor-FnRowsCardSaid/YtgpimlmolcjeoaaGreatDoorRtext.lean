/-
  Contracts of RowText, in the program and in the reference.
-/
import Derived.Test.YtgpimlmolcjeoaaGreatDoorVtext
import Derived.Test.YtgpimlmolcjeoaaGreatDoorNdraw
import Derived.Test.YtgpimlmolcjeoaaGreatDoorThree
import Derived.Lib.Join
namespace Go.Proofs.YtgpimlmolcjeoaaGreatDoor
open Go.RowKit
open Go.Lib (itoa)
set_option linter.unusedVariables false
set_option maxRecDepth 100000

theorem own_capr {w : World} {base size n c : Nat} {e : TypeId} {A : Option Addr} {xs : List Value} (h : w.ownsRow base e size (.slice A n c) n xs) : n ≤ c := by
  rcases h.2 with ⟨hv, hz⟩ | ⟨g, cap, cur, hv, _, _, h1, _⟩
  · omega
  · injection hv with _ _ h3
    omega
def rowL (id : Int) (l : List V) : List UInt8 := 35 :: itoa id ++ l.flatMap (fun v => 32 :: (valText v).data.toList)
def rowText (id : Int) (l : List V) : ByteArray := ⟨(rowL id l).toArray⟩
def wordsL (id : Int) (l : List V) : List ByteArray := ((⟨#[35]⟩ : ByteArray) ++ numText id) :: l.map valText
theorem row_head (id : Int) : (⟨#[35]⟩ : ByteArray) ++ numText id = rowText id [] := by
  apply ByteArray.ext
  apply Array.toList_inj.1
  simp [rowText, rowL, numText]
theorem rowText_snoc {id : Int} {l : List V} {k : Nat} {x : V} (h : l[k]? = some x) : rowText id (l.take k) ++ ⟨#[32]⟩ ++ valText x = rowText id (l.take (k + 1)) := by
  apply ByteArray.ext
  apply Array.toList_inj.1
  rw [List.take_add_one, h]
  simp [rowText, rowL]
theorem rowText_size {id : Int} {l : List V} (hid : I64 id) (hl : ∀ x ∈ l, x.ok) : (rowText id l).size ≤ 22 * (l.length + 1) := by
  have h1 : (itoa id).length ≤ 21 := Lib.itoa_length_le id hid.1 hid.2
  have h2 : ∀ l : List V, (∀ x ∈ l, x.ok) → (l.flatMap (fun v => 32 :: (valText v).data.toList)).length ≤ 22 * l.length := by
    intro l
    induction l with
    | nil => intro _; simp
    | cons x l ih =>
      intro hx
      have := ih (fun y hy => hx y (by simp [hy]))
      have h3 := valText_size (hx x (by simp))
      have h4 : (valText x).data.toList.length = (valText x).size := pn_len _
      simp only [List.flatMap_cons, List.length_append, List.length_cons] at *
      omega
  have h3 := h2 l hl
  have h4 : (rowText id l).size = (rowL id l).length := by simp [rowText, ByteArray.size]
  rw [h4]
  simp only [rowL, List.length_append, List.length_cons, List.cons_append]
  omega
theorem ok_take {l : List V} (hl : ∀ x ∈ l, x.ok) (k : Nat) : ∀ x ∈ l.take k, x.ok := fun x hx => hl x (List.mem_of_mem_take hx)
theorem words_snoc {id : Int} {l : List V} {k : Nat} {x : V} (h : l[k]? = some x) : strCells (wordsL id (l.take (k + 1))) = strCells (wordsL id (l.take k)) ++ [.string (valText x)] := by
  rw [List.take_add_one, h]
  simp [strCells, wordsL]
theorem words_len (id : Int) (l : List V) (k : Nat) (hk : k ≤ l.length) : (wordsL id (l.take k)).length = k + 1 := by simp [wordsL]; omega
theorem join_words (id : Int) (l : List V) : Lib.join ((wordsL id l).map (·.data.toList)) [32] = rowL id l := by
  rw [wordsL, List.map_cons, Lib.join_cons]
  have h : ∀ l : List V, Lib.joinTail [32] ((l.map valText).map (·.data.toList)) = l.flatMap (fun v => 32 :: (valText v).data.toList) := by
    intro l
    induction l with
    | nil => rfl
    | cons x l ih =>
      simp only [Lib.joinTail, List.map_cons, List.flatten_cons, List.flatMap_cons] at ih ⊢
      rw [ih]
      rfl
  rw [h]
  simp [rowL, numText]
set_option maxHeartbeats 1600000 in
theorem spec_RowText (w : World) (id : Int) (A : Option Addr) (c : Nat) (l : List V) (hr : Reads w w.heap.size 3 A l.length (valCells l)) (hl : l.length ≤ 1048576) (hi : ∀ x ∈ l, x.ok) (hid : I64 id) :
    Calls Tryz.prog 25 #[.agg #[.int .i64 id, .slice A l.length c]] w fun e w' => e = .returned (.string (rowText id l)) ∧ Below w.heap.size w w' := by
  obtain ⟨W, hW⟩ : ∃ W, W = w.alloc (.cells #[.int .i64 id, .slice A l.length c] 27) := ⟨_, rfl⟩
  have f0 : W.cell? ⟨w.heap.size, 0, none⟩ = some (.int .i64 id) := by rw [hW]; simp [go_sem]
  have f1 : W.cell? ⟨w.heap.size, 1, none⟩ = some (.slice A l.length c) := by rw [hW]; simp [go_sem]
  have hbW : Below w.heap.size w W := by rw [hW]; exact Below.alloc0 (Below.refl _ _) _
  have hrW := hr.below hbW (Nat.le_refl _)
  have HI := Lib.hid hi
  have hn21 := numText_size hid
  go_enter Tryz.func25, Tryz.ntmps25
  go_wp2_with fail
  rw [← hW]
  clear hW hr hi
  refine (spec_NumText _ id hid).mono ?_
  rintro e w1 ⟨rfl, hb1⟩
  replace f1 := cell_keep hb1 f1
  have hb2 := hbW.trans (hb1.mono hbW.size)
  replace hrW := hrW.below hb1 hbW.size
  obtain ⟨S0, hS0⟩ : ∃ S0, S0 = (⟨#[35]⟩ : ByteArray) ++ numText id := ⟨_, rfl⟩
  have HS0 := Lib.hid (hS0.trans (row_head id))
  clear f0 hb1 hbW
  go_wp2_with fail
  skip
  go_loopw [3, 4] (fun q i wr => ∃ (k : Nat) (S : ByteArray), i = .int .i64 (k : Int) ∧ q = .string S ∧ k ≤ l.length ∧ S.size ≤ 22 * (k + 1) ∧ Hid (S = rowText id (l.take k)) ∧ Below w1.heap.size w1 wr) (fun _ i _ => l.length - (intOf i).toNat)
  case atStart =>
    rw [← hS0]
    exact ⟨0, S0, rfl, rfl, Nat.zero_le _, by have := rowText_size (l := []) hid (by simp); rw [← HS0.out] at this; simpa using this, HS0, Below.refl _ _⟩
  case round =>
    clear HS0 hS0 hn21
    obtain ⟨k, S, rfl, rfl, hk, hS, HS, hbl⟩ := hrel
    replace f1 := cell_keep hbl f1
    have hb3 := hb2.trans (hbl.mono hb2.size)
    by_cases hlt : k < l.length
    · obtain ⟨b, off, x, rfl, hb, hx, hc0, hc1, hc2⟩ := (hrW.below hbl hb2.size).v hlt
      have hxo := HI.out x (List.mem_of_getElem? hx.out)
      have hvs := valText_size hxo
      have hsn := Lib.hid (rowText_snoc (id := id) hx.out)
      have hsz := Lib.hid (rowText_size (l := l.take (k + 1)) hid (ok_take HI.out _))
      obtain ⟨t, ht⟩ : ∃ t, t = valText x := ⟨_, rfl⟩
      rw [← ht] at hvs hsn
      have hcv : ∀ w : World, Calls Tryz.prog 34 #[.agg #[.int .i64 x.ty, .int .i64 x.n, .string x.s]] w fun e w' => e = .returned (.string t) ∧ Below w.heap.size w w' := fun w => by rw [ht]; exact spec_ValText w x hxo
      clear hrW hx ht hb2
      go_wp2_with fail
      refine (hcv _).mono ?_
      rintro e w3 ⟨rfl, hb4⟩
      have hb5 := hb3.trans (hb4.mono hb3.size)
      have hb6 := hbl.trans (hb4.mono hbl.size)
      clear hc0 hc1 hc2 hb4 hb3 hbl hcv f1
      go_wp2
      go_roundw
      case rel => exact ⟨k + 1, _, by go_num, rfl, by omega, by rw [ByteArray.size_append, ByteArray.size_append]; have e : (⟨#[32]⟩ : ByteArray).size = 1 := rfl; omega, Lib.hid (by rw [HS.out]; exact hsn.out), hb6⟩
      case measure => simp [intOf]; omega
    · have hkn : k = l.length := by omega
      subst hkn
      have ho := Lib.hid (show S = rowText id l by rw [HS.out, List.take_of_length_le (Nat.le_refl _)])
      clear HS hrW
      go_wp2
      go_ret
      exact ⟨ret_val (congrArg Value.string ho.out), hb3⟩
set_option maxHeartbeats 1600000 in
theorem impl_RowText (w : World) (id : Int) (A : Option Addr) (c : Nat) (l : List V) (hr : Reads w w.heap.size 3 A l.length (valCells l)) (hl : l.length ≤ 1048576) (hi : ∀ x ∈ l, x.ok) (hid : I64 id) (hT : Tab w) :
    Calls Tryz.prog 24 #[.agg #[.int .i64 id, .slice A l.length c]] w fun e w' => e = .returned (.string (rowText id l)) ∧ Below w.heap.size w w' := by
  obtain ⟨i0, hi0, hz0, hz1, hz2⟩ := info_parts info_String
  obtain ⟨W, hW⟩ : ∃ W, W = w.alloc (.cells #[.int .i64 id, .slice A l.length c] 27) := ⟨_, rfl⟩
  have f0 : W.cell? ⟨w.heap.size, 0, none⟩ = some (.int .i64 id) := by rw [hW]; simp [go_sem]
  have f1 : W.cell? ⟨w.heap.size, 1, none⟩ = some (.slice A l.length c) := by rw [hW]; simp [go_sem]
  have hbW : Below w.heap.size w W := by rw [hW]; exact Below.alloc0 (Below.refl _ _) _
  have hrW := hr.below hbW (Nat.le_refl _)
  have hTW := hT.below hbW
  have HI := Lib.hid hi
  have hn21 := numText_size hid
  go_enter Tryz.func24, Tryz.ntmps24
  go_wp2_with fail
  rw [← hW]
  clear hW hr hi hT
  refine (impl_NumText _ id hid hTW).mono ?_
  rintro e w1 ⟨rfl, hb1⟩
  replace f1 := cell_keep hb1 f1
  have hb2 := hbW.trans (hb1.mono hbW.size)
  replace hrW := hrW.below hb1 hbW.size
  have hT1 := hTW.below hb1
  obtain ⟨S0, hS0⟩ : ∃ S0, S0 = (⟨#[35]⟩ : ByteArray) ++ numText id := ⟨_, rfl⟩
  have HS0 := Lib.hid hS0
  obtain ⟨W1, hW1⟩ : ∃ W1, W1 = w1.alloc (.cells #[.string S0] 9) := ⟨_, rfl⟩
  have hbW1 : Below w1.heap.size w1 W1 := by rw [hW1]; exact Below.alloc0 (Below.refl _ _) _
  have hown0 : W1.ownsRow w1.heap.size 9 1 (.slice (some ⟨w1.heap.size, 0, none⟩) 1 1) 1 [.string S0] := by rw [hW1]; exact World.ownsRow_lit w1 #[.string S0] 1 (Nat.le_refl _) (by decide) rfl
  have hr1 := hrW
  have g1 : W1.cell? ⟨w.heap.size, 1, none⟩ = some (.slice A l.length c) := cell_keep hbW1 f1
  have hB2 := hb2
  have k1 : w.heap.size ≤ w1.heap.size := hb2.size
  have g2 := g1
  rw [hW1, hS0] at g2
  clear hb1 hbW hTW hb2 f0 hrW
  go_wp2_with fail
  rw [← hS0, ← hW1]
  clear g2 hW1 f1 hn21 hS0 g1
  go_loopw [3, 14] (fun q i wr => ∃ (k : Nat) (A' : Option Addr) (c' : Nat), k ≤ l.length ∧ i = .int .i64 (k : Int) ∧ q = .slice A' (k + 1) c' ∧ wr.ownsRow w1.heap.size 9 1 (.slice A' (k + 1) c') (k + 1) (strCells (wordsL id (l.take k))) ∧ Below w1.heap.size w1 wr) (fun _ i _ => l.length - (intOf i).toNat)
  case atStart => exact ⟨0, _, _, Nat.zero_le _, rfl, rfl, by rw [HS0.out] at hown0; exact hown0, hbW1⟩
  case round =>
    clear hown0 HS0 hbW1
    obtain ⟨k, A', c', hk, rfl, rfl, hown, hbl⟩ := hrel
    have hTr := hT1.below hbl
    have hsz := hbl.size
    by_cases hlt : k < l.length
    · obtain ⟨b, off, x, rfl, hb, hx, hc0, hc1, hc2⟩ := (hr1.below hbl k1).v hlt
      have hxo := HI.out x (List.mem_of_getElem? hx.out)
      have hvs := valText_size hxo
      have hsn := Lib.hid (words_snoc (id := id) hx.out)
      obtain ⟨t, ht⟩ : ∃ t, t = valText x := ⟨_, rfl⟩
      rw [← ht] at hvs hsn
      have hcv : ∀ w : World, Tab w → Calls Tryz.prog 46 #[.agg #[.int .i64 x.ty, .int .i64 x.n, .string x.s]] w fun e w' => e = .returned (.string t) ∧ Below w.heap.size w w' := fun w h => by rw [ht]; exact impl_ValText w x hxo h
      have hTa := hTr.below ((Below.refl wr.heap.size wr).alloc (Nat.le_refl _) (.cells #[.int .i64 x.ty, .int .i64 x.n, .string x.s] 49))
      clear hr1 hx ht hT1 hTr
      go_wp2_with fail
      refine (hcv _ hTa).mono ?_
      rintro e w3 ⟨rfl, hb4⟩
      have hown3 := own_step (hown.alloc _) hb4
      have hb5 := (hbl.alloc hsz _).trans (hb4.mono (by simp; omega))
      have hsz3 := hb5.size
      clear hc0 hc1 hc2 hb4 hbl hcv hTa hown
      go_wp2_with (at_builtin; refine append_one rfl (.tmp 18) (.tmp 21) 59 rfl w1.heap.size 9 i0 _ 1 16 Tryz.underlying59 hi0 hz0 hz1 hz2 rfl (by omega) (by omega) A' (k + 1) c' _ rfl hown3 [.string t] _ rfl (by first | rfl | simp) rfl (by simp [Value.oneCell']) hsz3 (by omega) ?_; intro A2 c2 w4 hown4 hb6)
      rw [← hsn.out] at hown4
      have hb7 := hb5.trans hb6
      clear hown3 hb5 hb6
      go_wp2
      go_roundw
      case rel => exact ⟨k + 1, _, _, by omega, by go_num, rfl, hown4, hb7⟩
      case measure => simp [intOf]; omega
    · have hkn : k = l.length := by omega
      subst hkn
      rw [List.take_of_length_le (Nat.le_refl _)] at hown
      obtain ⟨g, cap, hv, hg, hgl⟩ := hown.form (by omega)
      obtain ⟨rfl, rfl⟩ : A' = some ⟨g, 0, none⟩ ∧ c' = cap := by injection hv with h1 h2 h3; exact ⟨h1, h3⟩
      have hwl : (wordsL id l).length = l.length + 1 := by simp [wordsL]
      have hcap := own_capr hown
      have hcells : ∀ (j : Nat) x, (wordsL id l)[j]? = some x → wr.cell? ⟨g, 0 + j, none⟩ = some (.string x) := by
        intro j x hj
        obtain ⟨b, off, e, hb, hc⟩ := (own_reads hown).2 (by omega)
        injection e with e
        injection e with e1 e2
        subst e1
        subst e2
        exact hc j _ (by simp [strCells, hj])
      have hjl : (Lib.join ((wordsL id l).map (·.data.toList)) [32]).length ≤ 140737488355328 := by
        rw [join_words]
        have h1 := rowText_size hid HI.out
        have h4 : (rowText id l).size = (rowL id l).length := by simp [rowText, ByteArray.size]
        omega
      have hj := Tryz.strings_Join g 0 c' (wordsL id l) ⟨#[32]⟩ wr hcells hgl (by omega) (by omega) hjl
      rw [hwl] at hj
      have hjr : (⟨(Lib.join ((wordsL id l).map (·.data.toList)) [32]).toArray⟩ : ByteArray) = rowText id l := by rw [join_words]; rfl
      have HJ := Lib.hid hjr
      have hbe := hB2.trans (hbl.mono hB2.size)
      clear hcells hjl hjr hv hr1 hT1 hTr hcap hown hbl
      go_wp2_with fail
      refine hj.mono ?_
      rintro e w5 ⟨rfl, hb6⟩
      have hb7 := hbe.trans (hb6.mono hbe.size)
      clear hj hb6 hbe
      go_wp2
      go_ret
      exact ⟨ret_val (congrArg Value.string HJ.out), hb7⟩
end Go.Proofs.YtgpimlmolcjeoaaGreatDoor
