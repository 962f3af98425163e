/-
  Contracts of EncDict, in the program and in the reference.
-/
import Derived.Test.YtgpimlmolcjeoaaDict
import Derived.Test.YtgpimlmolcjeoaaPlaces
import Derived.Test.YtgpimlmolcjeoaaPack
import Derived.Test.YtgpimlmolcjeoaaEncs
namespace Go.Proofs.Ytgpimlmolcjeoaa
open Go.RowKit
set_option linter.unusedVariables false
set_option maxRecDepth 100000

def encDTo (D : List V) (k : Nat) : List UInt8 := (D.take k).foldl putVal (putNum [] (D.length : Int))
def encDict (l : List V) : List UInt8 := if typeOf l = 0 then [] else encDTo (dictOf l) (dictOf l).length ++ packOf (placeL (dictOf l) l) (widthOf (((dictOf l).length : Int) - 1))
theorem encD_none {l : List V} (h : typeOf l = 0) : encDict l = [] := by simp [encDict, h]
theorem encD_some {l : List V} (h : ¬ typeOf l = 0) : encDict l = encDTo (dictOf l) (dictOf l).length ++ packOf (placeL (dictOf l) l) (widthOf (((dictOf l).length : Int) - 1)) := by unfold encDict; rw [if_neg h]
theorem encDTo_snoc {D : List V} {k : Nat} {x : V} (h : D[k]? = some x) : encDTo D (k + 1) = putVal (encDTo D k) x := by
  unfold encDTo
  rw [List.take_add_one, h]
  simp [List.foldl_append]
theorem encDTo_len (D : List V) (k : Nat) (hk : k ≤ 64) : (encDTo D k).length ≤ 500 := by
  have h1 := foldPut_len (D.take k) (putNum [] (D.length : Int))
  have h2 := putNum_len [] (D.length : Int)
  have h3 : (D.take k).length ≤ k := by simp; omega
  unfold encDTo
  simp at h2
  omega
theorem place_I64 {D l : List V} (h : D.length ≤ 1000000) : ∀ x ∈ placeL D l, I64 x := by
  intro x hx
  unfold placeL at hx
  split at hx
  · unfold placeTo at hx
    rw [List.mem_map] at hx
    obtain ⟨v, _, rfl⟩ := hx
    have := inDict_bd D v
    unfold I64
    omega
  · simp at hx
theorem encDict_len (l : List V) : (encDict l).length ≤ 4063800 := by
  by_cases h : typeOf l = 0
  · rw [encD_none h]; simp
  · rw [encD_some h, List.length_append]
    have h64 := typeOf_le h
    have h1 := encDTo_len (dictOf l) (dictOf l).length (Nat.le_trans (dict_len l) h64)
    have h2 := packOf_len (xs := placeL (dictOf l) l) (widthOf (((dictOf l).length : Int) - 1)) (Nat.le_trans (placeL_len _ _) (by omega))
    omega
set_option maxHeartbeats 3200000 in
theorem impl_EncDict (w : World) (A : Option Addr) (c : Nat) (l : List V) (hr : Reads w w.heap.size 3 A l.length (valCells l)) (hA : A = none → l.length = 0 ∧ c = 0) (hl : l.length ≤ 1000000000) (hi : ∀ x ∈ l, x.ok) :
    Calls Try.prog 10 #[.slice A l.length c] w fun e w' => ∃ A' c', e = .returned (.slice A' (encDict l).length c') ∧ w'.ownsRow w.heap.size 5 1 (.slice A' (encDict l).length c') (encDict l).length (byteCells (encDict l)) ∧ Below w.heap.size w w' := by
  obtain ⟨i0, hi0, hz0, hz1, hz2⟩ := info_parts info_Byte
  go_enter Try.func10, Try.ntmps10
  go_wp2_with fail
  refine (impl_TypeOf _ _ _ _ ((hr.alloc (Nat.le_refl _) _).more (by simp)) (by omega) hi).mono ?_
  rintro e w1 ⟨rfl, hb1⟩
  have hbl1 := (Below.alloc0 (Below.refl w.heap.size w) _).trans (hb1.mono (by simp))
  have hown1 : w1.ownsRow w.heap.size 5 1 (.slice (some ⟨w.heap.size, 0, none⟩) 0 0) 0 [] := own_step (own_empty (Nat.le_refl _)) hb1
  clear hb1
  by_cases ht : typeOf l = 0
  · have htb : (typeOf l == 0) = true := by simp [ht]
    have ho := Lib.hid (encD_none ht)
    clear ht
    go_wp2_with fail
    go_ret
    rw [ho.out]
    exact ⟨_, _, rfl, hown1, hbl1⟩
  have htb : (typeOf l == 0) = false := by simp [ht]
  have ho := Lib.hid (encD_some ht)
  have h64 := typeOf_le ht
  clear ht
  go_wp2_with fail
  refine (impl_Dict _ _ _ l ((hr.below hbl1 (Nat.le_refl _)).more hbl1.size) hA (by omega) hi).mono ?_
  rintro e w2 ⟨Ad, cd, rfl, hod, hb_2⟩
  have hbl2 := hbl1.trans (hb_2.mono hbl1.size)
  have hown2 := own_step hown1 hb_2
  clear hb_2 hbl1 hown1 htb
  have hDl := Nat.le_trans (dict_len l) h64
  have hDo : ∀ x ∈ dictOf l, x.ok := fun x hx => hi x ((dict_mem l x).1 hx)
  generalize dictOf l = D at hDl hDo ho hod ⊢
  go_wp2_with fail
  refine (impl_PutNum _ _ _ [] (own_reads hown2) (own_nil hown2) (by simp) _).mono ?_
  rintro e W0 ⟨A3, c3, rfl, hown3, hb_3⟩
  have hbl3 := hbl2.trans (hb_3.mono hbl2.size)
  replace hod := own_step hod hb_3
  replace hown3 := own_lower hown3 hbl2.size
  rw [show putNum [] (D.length : Int) = encDTo D 0 from rfl] at hown3 ⊢
  have hrd := own_reads hod
  clear hb_3 hbl2 hown2
  go_wp2_with fail
  go_loopw [3, 22] (fun o i wr => ∃ (k : Nat) (A' : Option Addr) (c' : Nat), k ≤ D.length ∧ i = .int .i64 k ∧ o = .slice A' (encDTo D k).length c' ∧ wr.ownsRow w.heap.size 5 1 (.slice A' (encDTo D k).length c') (encDTo D k).length (byteCells (encDTo D k)) ∧ Below W0.heap.size W0 wr) (fun _ i _ => D.length - (intOf i).toNat)
  case atStart => exact ⟨0, _, _, Nat.zero_le _, rfl, rfl, hown3, Below.refl _ _⟩
  case round =>
    clear hown3
    obtain ⟨k, A', c', hk, rfl, rfl, hown, hbr⟩ := hrel
    have hsz : w.heap.size ≤ wr.heap.size := Nat.le_trans hbl3.size hbr.size
    by_cases hlt : k < D.length
    · obtain ⟨p, off, x, rfl, hb, hx, hc0, hc1, hc2⟩ := hrd.v hlt
      have hxo := hDo x (List.mem_of_getElem? hx.out)
      have hd0 : wr.cell? ⟨p, off + k * 3, none⟩ = some (.int .i64 x.ty) := (hbr.cell (p := ⟨p, off + k * 3, none⟩) hb).trans hc0
      have hd1 : wr.cell? ⟨p, off + k * 3 + 1, none⟩ = some (.int .i64 x.n) := (hbr.cell (p := ⟨p, off + k * 3 + 1, none⟩) hb).trans hc1
      have hd2 : wr.cell? ⟨p, off + k * 3 + 2, none⟩ = some (.string x.s) := (hbr.cell (p := ⟨p, off + k * 3 + 2, none⟩) hb).trans hc2
      have hs := Lib.hid (encDTo_snoc hx.out)
      have hln := encDTo_len D k (by omega)
      clear hc0 hc1 hc2 hrd
      go_wp2_with fail
      have hownW := hown.alloc (.cells #[.int .i64 x.ty, .int .i64 x.n, .string x.s] 37)
      have hbrW := hbr.alloc hbr.size (.cells #[.int .i64 x.ty, .int .i64 x.n, .string x.s] 37)
      have hszW : w.heap.size ≤ (wr.alloc (.cells #[.int .i64 x.ty, .int .i64 x.n, .string x.s] 37)).heap.size := by simp; omega
      refine (impl_PutVal _ _ _ _ (own_reads hownW) (own_nil hownW) (by omega) x hxo).mono ?_
      rintro e w5 ⟨A5, c5, rfl, hown5, hb_5⟩
      replace hown5 := own_lower hown5 hszW
      have hbr5 := hbrW.trans (hb_5.mono hbrW.size)
      rw [← hs.out] at hown5 ⊢
      clear hs hln hown hbr hd0 hd1 hd2 hownW hb_5 hbrW
      go_wp2_with fail
      go_roundw
      case rel => exact ⟨k + 1, A5, c5, by omega, by go_num, rfl, hown5, hbr5⟩
      case measure => simp [intOf]; omega
    · have hkn : k = D.length := by omega
      subst hkn
      have hln := encDTo_len D D.length (by omega)
      have hbl4 := hbl3.trans (hbr.mono hbl3.size)
      replace hod := own_step hod hbr
      clear hrd hbr
      go_wp2_with fail
      refine (impl_Places _ _ _ D (own_reads hod) (by omega) hDo _ _ l ((hr.below hbl4 (Nat.le_refl _)).more hbl4.size) (by omega) hi).mono ?_
      rintro e w5 ⟨A5, c5, rfl, hop, hb_5⟩
      have hbl5 := hbl4.trans (hb_5.mono hbl4.size)
      replace hown := own_step hown hb_5
      clear hb_5 hbl4 hod hr
      go_wp2_with fail
      refine (impl_WidthOf _ ((D.length : Int) - 1) ⟨by omega, by omega⟩).mono ?_
      rintro e w6 ⟨rfl, hb_6⟩
      have hbl6 := hbl5.trans (hb_6.mono hbl5.size)
      replace hop := own_step hop hb_6
      replace hown := own_step hown hb_6
      have hwb := widthOf_bd ((D.length : Int) - 1)
      generalize widthOf ((D.length : Int) - 1) = wd at hwb ho ⊢
      have hpl := packOf_len (xs := placeL D l) wd (Nat.le_trans (placeL_len _ _) (by omega))
      clear hb_6 hbl5
      go_wp2_with fail
      refine (impl_PackBits _ _ _ (placeL D l) (own_reads hop) (Nat.le_trans (placeL_len _ _) (by omega)) (place_I64 (by omega)) wd ⟨by omega, by omega⟩).mono ?_
      rintro e w7 ⟨A7, c7, rfl, hok, hb_7⟩
      have hbl7 := hbl6.trans (hb_7.mono hbl6.size)
      replace hown := own_step hown hb_7
      have hsz7 := hbl7.size
      clear hb_7 hbl6 hop
      generalize packOf (placeL D l) wd = pk at hpl hok ho ⊢
      go_wp2_with (at_builtin; go_loud (refine append_slice rfl (.tmp 36) (.tmp 42) 22 rfl w.heap.size 5 i0 _ 1 1 Try.underlying22 hi0 hz0 hz1 hz2 rfl (by omega) (by omega) A' (encDTo D D.length).length c' _ rfl hown w7.heap.size pk.length c7 A7 _ rfl (own_nil hok) (own_reads hok) (byteCells_one' _) hsz7 (by omega) (by omega) ?_); intro A8 c8 w8 hown8 hb8)
      have hfin := hbl7.trans hb8
      rw [show byteCells (encDTo D D.length) ++ byteCells pk = byteCells (encDict l) by rw [ho.out]; simp [byteCells], show (encDTo D D.length).length + pk.length = (encDict l).length by rw [ho.out]; simp] at hown8
      rw [show (encDTo D D.length).length + pk.length = (encDict l).length by rw [ho.out]; simp]
      clear hown hok ho hbl7 hb8
      go_ret
      exact ⟨_, _, rfl, hown8, hfin⟩
set_option maxHeartbeats 3200000 in
theorem spec_EncDict (w : World) (A : Option Addr) (c : Nat) (l : List V) (hr : Reads w w.heap.size 3 A l.length (valCells l)) (hA : A = none → l.length = 0 ∧ c = 0) (hl : l.length ≤ 1000000000) (hi : ∀ x ∈ l, x.ok) :
    Calls Try.prog 14 #[.slice A l.length c] w fun e w' => ∃ A' c', e = .returned (.slice A' (encDict l).length c') ∧ w'.ownsRow w.heap.size 5 1 (.slice A' (encDict l).length c') (encDict l).length (byteCells (encDict l)) ∧ Below w.heap.size w w' := by
  obtain ⟨i0, hi0, hz0, hz1, hz2⟩ := info_parts info_Byte
  go_enter Try.func14, Try.ntmps14
  go_wp2_with fail
  refine (spec_TypeOf _ _ _ _ hr (by omega) hi).mono ?_
  rintro e w1 ⟨rfl, hbl1⟩
  by_cases ht : typeOf l = 0
  · have htb : (typeOf l == 0) = true := by simp [ht]
    have ho := Lib.hid (encD_none ht)
    clear ht
    go_wp2_with fail
    go_ret
    rw [ho.out]
    exact ⟨_, _, rfl, own_empty hbl1.size, hbl1.alloc hbl1.size _⟩
  have htb : (typeOf l == 0) = false := by simp [ht]
  have ho := Lib.hid (encD_some ht)
  have h64 := typeOf_le ht
  clear ht
  go_wp2_with fail
  refine (spec_Dict _ _ _ l ((hr.below hbl1 (Nat.le_refl _)).more hbl1.size) hA (by omega) hi).mono ?_
  rintro e w2 ⟨Ad, cd, rfl, hod, hb_2⟩
  have hbl2 := hbl1.trans (hb_2.mono hbl1.size)
  clear hb_2 hbl1 htb
  have hDl := Nat.le_trans (dict_len l) h64
  have hDo : ∀ x ∈ dictOf l, x.ok := fun x hx => hi x ((dict_mem l x).1 hx)
  generalize dictOf l = D at hDl hDo ho hod ⊢
  go_wp2_with fail
  refine (spec_Places _ _ _ D (own_reads hod) (by omega) hDo _ _ l ((hr.below hbl2 (Nat.le_refl _)).more hbl2.size) (by omega) hi).mono ?_
  rintro e w3 ⟨A4, c4, rfl, hop, hb_3⟩
  have hbl3a := hbl2.trans (hb_3.mono hbl2.size)
  replace hod := own_step hod hb_3
  clear hb_3 hbl2 hr
  have hownE := own_empty (w := w3) (base := w.heap.size) (e := 5) (size := 1) hbl3a.size
  have hodE := hod.alloc (.cells #[] 5)
  have hopE := hop.alloc (.cells #[] 5)
  have hblE := hbl3a.alloc hbl3a.size (.cells #[] 5)
  go_wp2_with fail
  refine (spec_PutNum _ _ _ [] (own_reads hownE) (own_nil hownE) (by simp) _).mono ?_
  rintro e W0 ⟨A3, c3, rfl, hown3, hb_3⟩
  have hbl3 := hblE.trans (hb_3.mono hblE.size)
  have hod3 := own_step hodE hb_3
  have hop3 := own_step hopE hb_3
  replace hown3 := own_lower hown3 hblE.size
  rw [show putNum [] (D.length : Int) = encDTo D 0 from rfl] at hown3 ⊢
  have hrd := own_reads hod3
  clear hb_3 hblE hownE hodE hopE hod hop hbl3a hod3
  go_wp2_with fail
  go_loopw [6, 7] (fun o i wr => ∃ (k : Nat) (A' : Option Addr) (c' : Nat), k ≤ D.length ∧ i = .int .i64 k ∧ o = .slice A' (encDTo D k).length c' ∧ wr.ownsRow w.heap.size 5 1 (.slice A' (encDTo D k).length c') (encDTo D k).length (byteCells (encDTo D k)) ∧ Below W0.heap.size W0 wr) (fun _ i _ => D.length - (intOf i).toNat)
  case atStart => exact ⟨0, _, _, Nat.zero_le _, rfl, rfl, hown3, Below.refl _ _⟩
  case round =>
    clear hown3
    obtain ⟨k, A', c', hk, rfl, rfl, hown, hbr⟩ := hrel
    have hsz : w.heap.size ≤ wr.heap.size := Nat.le_trans hbl3.size hbr.size
    by_cases hlt : k < D.length
    · obtain ⟨p, off, x, rfl, hb, hx, hc0, hc1, hc2⟩ := hrd.v hlt
      have hxo := hDo x (List.mem_of_getElem? hx.out)
      have hd0 : wr.cell? ⟨p, off + k * 3, none⟩ = some (.int .i64 x.ty) := (hbr.cell (p := ⟨p, off + k * 3, none⟩) hb).trans hc0
      have hd1 : wr.cell? ⟨p, off + k * 3 + 1, none⟩ = some (.int .i64 x.n) := (hbr.cell (p := ⟨p, off + k * 3 + 1, none⟩) hb).trans hc1
      have hd2 : wr.cell? ⟨p, off + k * 3 + 2, none⟩ = some (.string x.s) := (hbr.cell (p := ⟨p, off + k * 3 + 2, none⟩) hb).trans hc2
      have hs := Lib.hid (encDTo_snoc hx.out)
      have hln := encDTo_len D k (by omega)
      clear hc0 hc1 hc2 hrd
      go_wp2_with fail
      have hownW := hown
      have hbrW := hbr
      have hszW : w.heap.size ≤ wr.heap.size := hsz
      refine (spec_PutVal _ _ _ _ (own_reads hownW) (own_nil hownW) (by omega) x hxo).mono ?_
      rintro e w5 ⟨A5, c5, rfl, hown5, hb_5⟩
      replace hown5 := own_lower hown5 hszW
      have hbr5 := hbrW.trans (hb_5.mono hbrW.size)
      rw [← hs.out] at hown5 ⊢
      clear hs hln hown hbr hd0 hd1 hd2 hownW hb_5 hbrW
      go_wp2_with fail
      go_roundw
      case rel => exact ⟨k + 1, A5, c5, by omega, by go_num, rfl, hown5, hbr5⟩
      case measure => simp [intOf]; omega
    · have hkn : k = D.length := by omega
      subst hkn
      have hln := encDTo_len D D.length (by omega)
      have hbl4 := hbl3.trans (hbr.mono hbl3.size)
      have hop := own_step hop3 hbr
      have hbl5 := hbl4
      clear hrd hbr hop3 hbl4
      go_wp2_with fail
      refine (spec_WidthOf _ ((D.length : Int) - 1) ⟨by omega, by omega⟩).mono ?_
      rintro e w6 ⟨rfl, hb_6⟩
      have hbl6 := hbl5.trans (hb_6.mono hbl5.size)
      replace hop := own_step hop hb_6
      replace hown := own_step hown hb_6
      have hwb := widthOf_bd ((D.length : Int) - 1)
      generalize widthOf ((D.length : Int) - 1) = wd at hwb ho ⊢
      have hpl := packOf_len (xs := placeL D l) wd (Nat.le_trans (placeL_len _ _) (by omega))
      clear hb_6 hbl5
      go_wp2_with fail
      refine (spec_PackBits _ _ _ (placeL D l) (own_reads hop) (Nat.le_trans (placeL_len _ _) (by omega)) (place_I64 (by omega)) wd ⟨by omega, by omega⟩).mono ?_
      rintro e w7 ⟨A7, c7, rfl, hok, hb_7⟩
      have hbl7 := hbl6.trans (hb_7.mono hbl6.size)
      replace hown := own_step hown hb_7
      have hsz7 := hbl7.size
      clear hb_7 hbl6 hop
      generalize packOf (placeL D l) wd = pk at hpl hok ho ⊢
      go_wp2_with (at_builtin; go_loud (refine append_slice rfl (.tmp 36) (.tmp 42) 22 rfl w.heap.size 5 i0 _ 1 1 Try.underlying22 hi0 hz0 hz1 hz2 rfl (by omega) (by omega) A' (encDTo D D.length).length c' _ rfl hown w7.heap.size pk.length c7 A7 _ rfl (own_nil hok) (own_reads hok) (byteCells_one' _) hsz7 (by omega) (by omega) ?_); intro A8 c8 w8 hown8 hb8)
      have hfin := hbl7.trans hb8
      rw [show byteCells (encDTo D D.length) ++ byteCells pk = byteCells (encDict l) by rw [ho.out]; simp [byteCells], show (encDTo D D.length).length + pk.length = (encDict l).length by rw [ho.out]; simp] at hown8
      rw [show (encDTo D D.length).length + pk.length = (encDict l).length by rw [ho.out]; simp]
      clear hown hok ho hbl7 hb8
      go_ret
      exact ⟨_, _, rfl, hown8, hfin⟩

end Go.Proofs.Ytgpimlmolcjeoaa
