/-
  Contracts of DecDict, in the program and in the reference.
-/
import Derived.Test.YtgpimlmolcjeoaaEncd
import Derived.Test.YtgpimlmolcjeoaaUnpack
import Derived.Test.YtgpimlmolcjeoaaPick
import Derived.Test.YtgpimlmolcjeoaaDecr
import Derived.Test.YtgpimlmolcjeoaaGvs
import Derived.Test.YtgpimlmolcjeoaaDrawn
import Derived.Test.YtgpimlmolcjeoaaBackp
namespace Go.Proofs.Ytgpimlmolcjeoaa
open Go.RowKit
set_option linter.unusedVariables false
set_option maxRecDepth 100000

def ddU (bs : List UInt8) (k n : Int) (q : Nat) : List Int := upL (bs.drop q) (widthOf (n - 1)) k
def ddEnd (bs : List UInt8) (k n : Int) (d : List V) (q : Nat) : Option (List V) :=
  if upOk (bs.drop q) (widthOf (n - 1)) k = true ∧ pickedOk d (ddU bs k n q) = true ∧ encDict (pickedL d (ddU bs k n q)) = bs then some (pickedL d (ddU bs k n q)) else none
def decDict (bs : List UInt8) (ty k : Int) : Option (List V) := match getNum bs 0 with
  | none => none
  | some (n, p) => if inB k 1 64 = true ∧ inB n 1 k = true then (match dvAcc bs ty n.toNat [] (p : Int) with | none => none | some (d, q) => ddEnd bs k n d q.toNat) else none
def ddL (bs : List UInt8) (ty k : Int) : List V := (decDict bs ty k).getD []
def ddOk (bs : List UInt8) (ty k : Int) : Bool := (decDict bs ty k).isSome
theorem dd_none {bs : List UInt8} {ty k : Int} (h : decDict bs ty k = none) : ddL bs ty k = [] ∧ ddOk bs ty k = false := by simp [ddL, ddOk, h]
theorem dd_some {bs : List UInt8} {ty k : Int} {l : List V} (h : decDict bs ty k = some l) : ddL bs ty k = l ∧ ddOk bs ty k = true := by simp [ddL, ddOk, h]
theorem dd_nonum {bs : List UInt8} {ty k : Int} (h : getNum bs 0 = none) : decDict bs ty k = none := by simp [decDict, h]
theorem dd_wide {bs : List UInt8} {ty k n : Int} {p : Nat} (h : getNum bs 0 = some (n, p)) (hk : ¬ (inB k 1 64 = true ∧ inB n 1 k = true)) : decDict bs ty k = none := by simp only [decDict, h]; rw [if_neg hk]
theorem dd_acc {bs : List UInt8} {ty k : Int} {N p : Nat} (h : getNum bs 0 = some ((N : Int), p)) (hd : dvAcc bs ty N [] (p : Int) = none) : decDict bs ty k = none := by
  simp only [decDict, h, Int.toNat_natCast, hd]
  split <;> rfl
theorem dd_end {bs : List UInt8} {ty k : Int} {N p Q : Nat} {d : List V} (h : getNum bs 0 = some ((N : Int), p)) (hd : dvAcc bs ty N [] (p : Int) = some (d, (Q : Int))) : decDict bs ty k = if inB k 1 64 = true ∧ inB (N : Int) 1 k = true then ddEnd bs k (N : Int) d Q else none := by
  simp only [decDict, h, Int.toNat_natCast, hd]
theorem dd_noup {bs : List UInt8} {ty k : Int} {N p Q : Nat} {d : List V} (h : getNum bs 0 = some ((N : Int), p)) (hd : dvAcc bs ty N [] (p : Int) = some (d, (Q : Int))) (hu : upOk (bs.drop Q) (widthOf ((N : Int) - 1)) k = false) : decDict bs ty k = none := by
  rw [dd_end h hd]
  split
  · unfold ddEnd
    rw [if_neg (by rw [hu]; rintro ⟨h, _⟩; cases h)]
  · rfl
theorem up_len {bs : List UInt8} {m k : Int} (h : upOk bs m k = true) : ((upL bs m k).length : Int) = k := by
  unfold upOk at h
  unfold upL
  unfold unpack at h ⊢
  split at h
  · rename_i hc
    have hk := inB_iff.1 hc.2.1
    rw [if_pos hc]
    split at h
    · rename_i hr
      rw [if_pos hr]
      simp only [Option.getD_some, wordsTo_len]
      omega
    · cases h
  · cases h
theorem pick_len {d : List V} {xs : List Int} (h : pickedOk d xs = true) : (pickedL d xs).length = xs.length := by
  unfold pickedL
  rw [if_pos h]
  unfold pickedOk at h
  unfold pickTo
  induction xs with
  | nil => rfl
  | cons q xs ih =>
    rw [List.all_cons, Bool.and_eq_true] at h
    have hq := inB_iff.1 h.1
    rw [List.filterMap_cons, List.getElem?_eq_getElem (show q.toNat < d.length by omega)]
    simp [ih h.2]
theorem encDict_num {bs : List UInt8} {l : List V} {n : Int} {p : Nat} (he : bs = encDict l) (hg : getNum bs 0 = some (n, p)) : n ≤ l.length := by
  by_cases ht : typeOf l = 0
  · rw [he, encD_none ht] at hg
    simp [getNum, getGo] at hg
  · have h64 := typeOf_le ht
    have hdl := dict_len l
    have hin : inB ((dictOf l).length : Int) (-1000000000) 1000000000 = true := inB_true ⟨by omega, by omega⟩
    obtain ⟨r, hr⟩ := foldPut_ext ((dictOf l).take (dictOf l).length) (putNum [] ((dictOf l).length : Int))
    have hb := getNum_back (b := []) (rest := r ++ packOf (placeL (dictOf l) l) (widthOf (((dictOf l).length : Int) - 1))) hin
    rw [he, encD_some ht, encDTo, hr, List.append_assoc] at hg
    rw [show (([] : List UInt8).length : Int) = 0 from rfl] at hb
    rw [hb] at hg
    have := Option.some.inj hg
    injection this with h1 h2
    omega
theorem dd_full {bs : List UInt8} {ty k : Int} {N p Q : Nat} {d : List V} (h : getNum bs 0 = some ((N : Int), p)) (hd : dvAcc bs ty N [] (p : Int) = some (d, (Q : Int))) (hN : 1 ≤ N) (hk : inB k 1 64 = true) (hu : upOk (bs.drop Q) (widthOf ((N : Int) - 1)) k = true) :
    (((pickedL d (ddU bs k N Q)).length : Int) = k ∧ bs = encDict (pickedL d (ddU bs k N Q)) → decDict bs ty k = some (pickedL d (ddU bs k N Q))) ∧ (¬ (((pickedL d (ddU bs k N Q)).length : Int) = k ∧ bs = encDict (pickedL d (ddU bs k N Q))) → decDict bs ty k = none) := by
  have hk1 := inB_iff.1 hk
  have hul : ((ddU bs k N Q).length : Int) = k := up_len hu
  constructor
  · rintro ⟨h1, h2⟩
    have hn := encDict_num h2 h
    have hp : pickedOk d (ddU bs k N Q) = true := by
      cases hp : pickedOk d (ddU bs k N Q)
      · unfold pickedL at h1
        rw [hp] at h1
        simp at h1
        omega
      · rfl
    rw [dd_end h hd, if_pos ⟨hk, inB_true ⟨by omega, by omega⟩⟩]
    unfold ddEnd
    rw [if_pos ⟨hu, hp, h2.symm⟩]
  · intro hno
    rw [dd_end h hd]
    split
    · unfold ddEnd
      rw [if_neg]
      rintro ⟨_, hp, he⟩
      exact hno ⟨by rw [pick_len hp]; exact hul, he.symm⟩
    · rfl
theorem ddL_len (bs : List UInt8) (ty k : Int) : (ddL bs ty k).length ≤ 64 := by
  unfold ddL decDict
  split
  · simp
  · split
    · split
      · simp
      · unfold ddEnd
        split
        · simp only [Option.getD_some]
          exact Nat.le_trans (pickedL_len _ _) (upL_len _ _ _)
        · simp
    · simp
theorem picked_ok {d : List V} {xs : List Int} (h : ∀ x ∈ d, x.ok) : ∀ x ∈ pickedL d xs, x.ok := by
  intro x hx
  unfold pickedL at hx
  split at hx
  · unfold pickTo at hx
    rw [List.mem_filterMap] at hx
    obtain ⟨q, _, hq⟩ := hx
    exact h x (List.mem_of_getElem? hq)
  · simp at hx
theorem word_I64 (bs : List UInt8) (m i j : Nat) : I64 (wordTo bs m i j) := by
  cases j with
  | zero => simp [wordTo, I64]
  | succ j =>
    unfold wordTo bits I64
    rw [IntKind.wrap_i64]
    omega
theorem up_I64 (bs : List UInt8) (m k : Int) : ∀ x ∈ upL bs m k, I64 x := by
  intro x hx
  unfold upL unpack at hx
  split at hx
  · split at hx
    · simp only [Option.getD_some, wordsTo, List.mem_map] at hx
      obtain ⟨i, _, rfl⟩ := hx
      exact word_I64 _ _ _ _
    · simp at hx
  · simp at hx
theorem drop_reads {w : World} {B c : Nat} {b off o Q : Nat} {bs : List UInt8} (h : Reads w B 1 (some ⟨b, off, none⟩) bs.length (byteCells bs)) (hc : bs.length ≤ c) (ho : o = if c = Q then off else off + Q) : Reads w B 1 (some ⟨b, o, none⟩) (bs.drop Q).length (byteCells (bs.drop Q)) := by
  refine ⟨by simp [byteCells], fun hn => ?_⟩
  rw [List.length_drop] at hn
  obtain ⟨b', off', he, hb, hcell⟩ := h.2 (by omega)
  injection he with he
  injection he with h1 h2
  subst h1
  subst h2
  refine ⟨b, off + Q, by rw [ho, if_neg (by omega)], hb, fun j u hj => ?_⟩
  have : (byteCells bs)[Q + j]? = some u := by
    rw [← hj]
    simp [byteCells, List.map_drop]
  have h3 := hcell (Q + j) u this
  rw [show off + Q + j = off + (Q + j) by omega]
  exact h3
set_option maxHeartbeats 3200000 in
theorem impl_DecDict (w : World) (A : Option Addr) (c : Nat) (bs : List UInt8) (hr : Reads w w.heap.size 1 A bs.length (byteCells bs)) (hl : bs.length ≤ 1099511627776) (hcap : bs.length ≤ c) (hA : AForm A) (ty : Int) (hty : I64 ty) (k : Int) (hk : I64 k) :
    Calls Try.prog 19 #[.slice A bs.length c, .int .i64 ty, .int .i64 k] w fun e w' => ∃ A' c', e = .returned (.tuple #[.slice A' (ddL bs ty k).length c', .bool (ddOk bs ty k)]) ∧
      w'.ownsRow w.heap.size 37 3 (.slice A' (ddL bs ty k).length c') (ddL bs ty k).length (valCells (ddL bs ty k)) ∧ Below w.heap.size w w' := by
  cases hg0 : getNum bs 0 with
  | none =>
    have hq := Lib.hid (gv_nonum hg0)
    have hp := Lib.hid (dd_none (ty := ty) (k := k) (dd_nonum hg0))
    clear hg0
    go_enter Try.func19, Try.ntmps19
    go_wp2_with fail
    refine (impl_GetNum _ _ _ _ hr hl 0 ⟨by omega, by omega⟩).mono ?_
    rintro e w1 ⟨rfl, hb1⟩
    rw [hq.out.1, hq.out.2.1, hq.out.2.2]
    go_wp2
    go_ret2
    rw [hp.out.1, hp.out.2]
    exact ⟨none, 0, rfl, World.ownsRow_nil _ _ _ _, hb1⟩
  | some r =>
    obtain ⟨n, p⟩ := r
    have hq := Lib.hid (gv_num hg0)
    cases hin : inB n 1 64
    · have hp := Lib.hid (dd_none (ty := ty) (dd_wide (k := k) hg0 (by
        rintro ⟨h1, h2⟩
        have a1 := inB_iff.1 h1
        have a2 := inB_iff.1 h2
        rw [inB_true (show (1 : Int) ≤ n ∧ n ≤ 64 by omega)] at hin
        cases hin)))
      clear hg0
      go_enter Try.func19, Try.ntmps19
      go_wp2_with fail
      refine (impl_GetNum _ _ _ _ hr hl 0 ⟨by omega, by omega⟩).mono ?_
      rintro e w1 ⟨rfl, hb1⟩
      rw [hq.out.1, hq.out.2.1, hq.out.2.2]
      go_wp2_with (go_at_call 59; refine (within_any _ _ _ _).mono ?_; rintro e w' ⟨rfl, rfl⟩; rw [hin])
      go_ret2
      rw [hp.out.1, hp.out.2]
      exact ⟨none, 0, rfl, World.ownsRow_nil _ _ _ _, hb1⟩
    obtain ⟨N, rfl, hN1, hN2⟩ := inB_nat hin
    have hpl := (getNum_put (p := 0) hg0).2.1
    have hp0 := (getNum_put (p := 0) hg0).1
    go_enter Try.func19, Try.ntmps19
    go_wp2_with fail
    refine (impl_GetNum _ _ _ _ hr hl 0 ⟨by omega, by omega⟩).mono ?_
    rintro e w1 ⟨rfl, hb1⟩
    rw [hq.out.1, hq.out.2.1, hq.out.2.2]
    go_wp2_with fail
    refine (within_any _ _ _ _).mono ?_
    rintro e w' ⟨rfl, rfl⟩
    rw [hin]
    go_wp2_with fail
    refine (impl_getVals _ _ _ _ ((hr.below hb1 (Nat.le_refl _)).more hb1.size) hl hcap (p : Int) ⟨by omega, by omega⟩ ty hty N hN2).mono ?_
    rintro e w2 ⟨Ad, cd, rfl, hod, hb_2⟩
    have hb2 := hb1.trans (hb_2.mono hb1.size)
    cases hd : dvAcc bs ty N [] (p : Int) with
    | none =>
      obtain ⟨g1, g2, g3⟩ := gvs_none hd
      have hp := Lib.hid (dd_none (k := k) (dd_acc hg0 hd))
      rw [g1, g2, g3]
      clear hg0 hd hod hb_2 hb1 g1 g2 g3 hr
      go_wp2
      go_ret2
      rw [hp.out.1, hp.out.2]
      exact ⟨none, 0, rfl, World.ownsRow_nil _ _ _ _, hb2⟩
    | some r =>
    obtain ⟨d, qi⟩ := r
    obtain ⟨Q, M, m1, m2, m3, m4, m5, m6, m7, m8⟩ := dv_put hpl hd
    rw [List.nil_append] at m4
    subst m4
    subst m1
    have hdo : ∀ x ∈ d, x.ok := fun x hx => valOk_ok (m6 x hx).1
    obtain ⟨g1, g2, g3⟩ := gvs_some hd
    rw [g1] at hod ⊢
    rw [g2, g3]
    have hfull := fun hk hu => dd_full (k := k) hg0 hd hN1 hk hu
    have hnoup := fun hu => dd_noup (k := k) hg0 hd hu
    have hwidek := fun h => dd_wide (k := k) (ty := ty) hg0 h
    have hbX := hb2
    have hdl : d.length ≤ 64 := by omega
    clear hd m2 m5 m6 m7 m8 g1 g2 g3 hb_2 hb1 hg0 hb2 hq hin
    obtain ⟨b0, off0, rfl⟩ : ∃ b off, A = some ⟨b, off, none⟩ := by
      obtain ⟨b, off, he, _⟩ := hr.2 (by omega)
      exact ⟨b, off, he⟩
    obtain ⟨o13, ho⟩ : ∃ o, o = if c = Q then off0 else off0 + Q := ⟨_, rfl⟩
    have kq0 : (0 : Int) ≤ (Q : Int) := by omega
    have kq1 : (Q : Int) ≤ (c : Int) := by omega
    have kq2 : (Q : Int) ≤ (bs.length : Int) := by omega
    have hldr : (bs.drop Q).length = bs.length - Q := List.length_drop
    have hnw : IntKind.i64.wrap ((N : Int) - 1) = (N : Int) - 1 := by rw [IntKind.wrap_i64]; omega
    have hwb := widthOf_bd ((N : Int) - 1)
    go_wp2_with fail
    refine wp_region_any (by kernel_rfl) ?_
    change wpAny _ _ _ _ _ _ _ (World.drew _)
    replace hod : w2.drew.ownsRow w1.heap.size 37 3 (.slice Ad d.length cd) d.length (valCells d) := hod
    replace hbX := hbX.drew
    generalize w2.drew = w4 at hod hbX ⊢
    refine wpAny_take (i := 0) (v := .slice (some ⟨b0, off0, none⟩) bs.length c) rfl (by kernel_rfl) (by kernel_rfl) (by kernel_rfl) (fun _ _ _ h => h) (Or.inl ⟨by kernel_rfl, fun _ => by kernel_rfl⟩) ?_
    refine wpAny_take (i := 1) (v := .int .i64 (Q : Int)) rfl (by kernel_rfl) (by kernel_rfl) (by kernel_rfl) (fun _ _ _ h => h) (Or.inl ⟨by kernel_rfl, fun _ => by kernel_rfl⟩) ?_
    refine wpAny_take (i := 2) (v := .slice (some ⟨b0, o13, none⟩) (bs.length - Q) (c - Q)) rfl (by kernel_rfl) (by kernel_rfl) (by kernel_rfl) (fun _ _ _ h => h) (Or.inl ⟨by kernel_rfl, fun _ => by rw [ho]; go_simp; split <;> rfl⟩) ?_
    have HO := Lib.hid ho
    clear ho
    refine wpAny_take (i := 3) (v := .int .i64 (N : Int)) rfl (by kernel_rfl) (by kernel_rfl) (by kernel_rfl) (fun _ _ _ h => h) (Or.inl ⟨by kernel_rfl, fun _ => by kernel_rfl⟩) ?_
    refine wpAny_take (i := 4) (v := .int .i64 ((N : Int) - 1)) rfl (by kernel_rfl) (by kernel_rfl) (by kernel_rfl) (fun _ _ _ h => h) (Or.inl ⟨by kernel_rfl, fun _ => by go_simp⟩) ?_
    refine wpAny_take (i := 6) (v := .int .i64 k) rfl (by kernel_rfl) (by kernel_rfl) (by kernel_rfl) (fun _ _ _ h => h) (Or.inl ⟨by kernel_rfl, fun _ => by kernel_rfl⟩) ?_
    refine wpAny_ready (rs := [5]) (by kernel_rfl) (by simp) ?_
    refine AllReady.cons rfl (fun K hK => ?_) AllReady.nil
    go_simp
    refine (impl_WidthOf _ ((N : Int) - 1) ⟨by omega, by omega⟩).mono ?_
    rintro e w5 ⟨rfl, hb_5⟩
    try go_simp
    refine hK _ _ ?_
    clear hK K
    have hbl5 := hbX.trans (hb_5.mono hbX.size)
    replace hod := own_step hod hb_5
    clear hb_5 hbX
    refine wpAny_ready (rs := [7]) (by kernel_rfl) (by simp) ?_
    refine AllReady.cons rfl (fun K hK => ?_) AllReady.nil
    go_simp
    rw [← hldr]
    refine (impl_UnpackBits _ _ _ (bs.drop Q) (drop_reads ((hr.below hbl5 (Nat.le_refl _)).more hbl5.size) hcap HO.out) (by omega) (widthOf ((N : Int) - 1)) ⟨by omega, by omega⟩ k hk).mono ?_
    rintro e w6 ⟨A6, c6, rfl, hou, hb_6⟩
    try go_simp
    refine hK _ _ ?_
    clear hK K
    have hbl6 := hbl5.trans (hb_6.mono hbl5.size)
    replace hod := own_step hod hb_6
    clear hb_6 hbl5
    have hul := upL_len (bs.drop Q) (widthOf ((N : Int) - 1)) k
    have hui := up_I64 (bs.drop Q) (widthOf ((N : Int) - 1)) k
    rw [show upL (bs.drop Q) (widthOf ((N : Int) - 1)) k = ddU bs k (N : Int) Q from rfl] at hou hul hui ⊢
    refine wpAny_take (i := 8) (v := .tuple #[.slice A6 (ddU bs k (N : Int) Q).length c6, .bool (upOk (bs.drop Q) (widthOf ((N : Int) - 1)) k)]) rfl (by kernel_rfl) (by kernel_rfl) (by kernel_rfl) (fun _ _ _ h => h) (Or.inl ⟨by kernel_rfl, fun _ => by kernel_rfl⟩) ?_
    refine wpAny_take (i := 9) (v := .slice A6 (ddU bs k (N : Int) Q).length c6) rfl (by kernel_rfl) (by kernel_rfl) (by kernel_rfl) (fun _ _ _ h => h) (Or.inl ⟨by kernel_rfl, fun _ => by go_simp⟩) ?_
    refine wpAny_take (i := 10) (v := .bool (upOk (bs.drop Q) (widthOf ((N : Int) - 1)) k)) rfl (by kernel_rfl) (by kernel_rfl) (by kernel_rfl) (fun _ _ _ h => h) (Or.inl ⟨by kernel_rfl, fun _ => by go_simp⟩) ?_
    refine wpAny_take (i := 11) (v := .slice A6 (ddU bs k (N : Int) Q).length c6) rfl (by kernel_rfl) (by kernel_rfl) (by kernel_rfl) (fun _ _ _ h => h) (Or.inl ⟨by kernel_rfl, fun _ => by kernel_rfl⟩) ?_
    refine wpAny_take (i := 12) (v := .bool (upOk (bs.drop Q) (widthOf ((N : Int) - 1)) k)) rfl (by kernel_rfl) (by kernel_rfl) (by kernel_rfl) (fun _ _ _ h => h) (Or.inl ⟨by kernel_rfl, fun _ => by kernel_rfl⟩) ?_
    refine wpAny_done (by kernel_rfl) ?_ _
    cases hu : upOk (bs.drop Q) (widthOf ((N : Int) - 1)) k
    · have hp := Lib.hid (dd_none (hnoup hu))
      clear hfull hnoup hwidek hu hou hod hr
      go_wp2
      go_ret2
      rw [hp.out.1, hp.out.2]
      exact ⟨none, 0, rfl, World.ownsRow_nil _ _ _ _, hbl6⟩
    have hpick := picked_ok (xs := ddU bs k (N : Int) Q) hdo
    have hpkl := pickedL_len d (ddU bs k (N : Int) Q)
    go_wp2_with fail
    refine (impl_Picked _ _ _ d (own_reads hod) (by omega) hdo _ _ (ddU bs k (N : Int) Q) (own_reads hou) (by omega) hui).mono ?_
    rintro e w7 ⟨A7, c7, rfl, hol, hb_7⟩
    have hbl7 := hbl6.trans (hb_7.mono hbl6.size)
    replace hol := own_lower hol hbl6.size
    clear hb_7 hbl6 hod hou
    generalize pickedL d (ddU bs k (N : Int) Q) = l at hfull hol hpick hpkl ⊢
    go_wp2_with fail
    refine (impl_EncDict _ _ _ l (own_reads hol) (own_nil hol) (by omega) hpick).mono ?_
    rintro e w8 ⟨A8, c8, rfl, hoe, hb_8⟩
    have hbl8 := hbl7.trans (hb_8.mono hbl7.size)
    replace hol := own_step hol hb_8
    clear hb_8 hbl7
    cases hkin : inB k 1 64
    · have hp := Lib.hid (dd_none (hwidek (by rw [hkin]; rintro ⟨h, _⟩; cases h)))
      clear hfull hnoup hwidek hu hol hr
      go_wp2_with fail
      refine (impl_decoded_wide _ _ _ _ _ _ _ _ _ _ k hkin).mono ?_
      rintro e w9 ⟨rfl, rfl⟩
      go_wp2
      go_ret2
      rw [hp.out.1, hp.out.2]
      exact ⟨none, 0, rfl, World.ownsRow_nil _ _ _ _, hbl8⟩
    obtain ⟨hy, hn⟩ := hfull hkin hu
    by_cases hc : ((l.length : Int) = k ∧ bs = encDict l)
    · have hp := Lib.hid (dd_some (hy hc))
      have HC := Lib.hid hc
      clear hc hy hn hfull hnoup hwidek
      go_wp2_with fail
      refine (impl_decoded_yes _ _ _ bs ((hr.below hbl8 (Nat.le_refl _)).more hbl8.size) hA _ _ (encDict l) (own_reads hoe) (own_aform hoe) _ _ _ k hkin HC.out.1 HC.out.2).mono ?_
      rintro e w9 ⟨rfl, rfl⟩
      clear hu hr hoe
      go_wp2
      go_ret2
      rw [hp.out.1, hp.out.2]
      exact ⟨_, _, rfl, hol, hbl8⟩
    · have hp := Lib.hid (dd_none (hn hc))
      have HC := Lib.hid hc
      clear hc hy hn hfull hnoup hwidek
      go_wp2_with fail
      refine (impl_decoded_no _ _ _ bs ((hr.below hbl8 (Nat.le_refl _)).more hbl8.size) hA _ _ (encDict l) (own_reads hoe) (own_aform hoe) _ _ _ k hkin HC.out).mono ?_
      rintro e w9 ⟨rfl, rfl⟩
      clear hu hr hoe hol
      go_wp2
      go_ret2
      rw [hp.out.1, hp.out.2]
      exact ⟨none, 0, rfl, World.ownsRow_nil _ _ _ _, hbl8⟩

end Go.Proofs.Ytgpimlmolcjeoaa
