/-
  Contract of DecDict in the reference.
-/
import Derived.Test.YtkgkommlfceneaaDecdi
import Derived.Test.YtkgkommlfceneaaVdraw
namespace Go.Proofs.Ytkgkommlfceneaa
open Go.RowKit
set_option linter.unusedVariables false
set_option maxRecDepth 100000

theorem ok_snoc' {vs : List V} {v : V} (h : ∀ x ∈ vs, x.ok) (hv : v.ok) : ∀ x ∈ vs ++ [v], x.ok := by
  intro x hx
  rcases List.mem_append.1 hx with hx | hx
  · exact h x hx
  · rw [List.mem_singleton.1 hx]; exact hv
theorem own_zero_lt {base size g : Nat} {e : TypeId} {W : World} (h : W.ownsRow base e size (.slice (some ⟨g, 0, none⟩) 0 0) 0 []) : g < W.heap.size := by
  rcases h.2 with ⟨hv, _⟩ | ⟨g', cap', cur, hv, h1, h2, h3⟩
  · cases hv
  · injection hv with e1 e2 e3
    injection e1 with e1
    injection e1 with e1
    subst e1
    exact (Array.getElem?_eq_some_iff.1 h2).1
/-- an append leaves an empty slice of the call's own as it is -/
theorem own_zero {w' : World} {base size g : Nat} {e : TypeId} {W : World} (h : W.ownsRow base e size (.slice (some ⟨g, 0, none⟩) 0 0) 0 []) (hk : w'.heap[g]? = W.heap[g]?) : w'.ownsRow base e size (.slice (some ⟨g, 0, none⟩) 0 0) 0 [] := by
  refine ⟨h.1, ?_⟩
  rcases h.2 with ⟨hv, _⟩ | ⟨g', cap', cur, hv, h1, h2, h3⟩
  · cases hv
  · have hv' := hv
    injection hv with e1 e2 e3
    injection e1 with e1
    injection e1 with e1
    subst e1
    exact .inr ⟨g, cap', cur, hv', h1, hk.trans h2, h3⟩
set_option maxHeartbeats 3200000 in
theorem spec_DecDict (w : World) (A : Option Addr) (c : Nat) (bs : List UInt8) (hr : Reads w w.heap.size 1 A bs.length (byteCells bs)) (hl : bs.length ≤ 1099511627776) (hcap : bs.length ≤ c) (hA : AForm A) (ty : Int) (hty : I64 ty) (k : Int) (hk : I64 k) :
    Calls Try.prog 22 #[.slice A bs.length c, .int .i64 ty, .int .i64 k] w fun e w' => ∃ A' c', e = .returned (.tuple #[.slice A' (ddL bs ty k).length c', .bool (ddOk bs ty k)]) ∧
      w'.ownsRow w.heap.size 30 3 (.slice A' (ddL bs ty k).length c') (ddL bs ty k).length (valCells (ddL bs ty k)) ∧ Below w.heap.size w w' := by
  obtain ⟨i0, hi0, hz0, hz1, hz2⟩ := info_parts info_Val
  cases hg0 : getNum bs 0 with
  | none =>
    have hq := Lib.hid (gv_nonum hg0)
    have hp := Lib.hid (dd_none (ty := ty) (k := k) (dd_nonum hg0))
    clear hg0
    go_enter Try.func22, Try.ntmps22
    go_wp2_with fail
    refine (spec_GetNum _ _ _ _ ((hr.alloc (Nat.le_refl _) _).more (by simp)) hl 0 ⟨by omega, by omega⟩).mono ?_
    rintro e w1 ⟨rfl, hb1⟩
    have hE := own_step (own_empty (w := w) (base := w.heap.size) (size := 3) (e := 30) (Nat.le_refl _)) hb1
    replace hb1 := (Below.alloc0 (Below.refl w.heap.size w) _).trans (hb1.mono (by simp))
    rw [hq.out.1, hq.out.2.1, hq.out.2.2]
    go_wp2
    go_ret2
    rw [hp.out.1, hp.out.2]
    exact ⟨_, _, rfl, hE, hb1⟩
  | some r =>
    obtain ⟨n, p⟩ := r
    have hq := Lib.hid (gv_num hg0)
    cases hkin : inB k 1 64
    · have hp := Lib.hid (dd_none (ty := ty) (dd_wide (k := k) hg0 (by rw [hkin]; rintro ⟨h, _⟩; cases h)))
      clear hg0
      go_enter Try.func22, Try.ntmps22
      go_wp2_with fail
      refine (spec_GetNum _ _ _ _ ((hr.alloc (Nat.le_refl _) _).more (by simp)) hl 0 ⟨by omega, by omega⟩).mono ?_
      rintro e w1 ⟨rfl, hb1⟩
      have hE := own_step (own_empty (w := w) (base := w.heap.size) (size := 3) (e := 30) (Nat.le_refl _)) hb1
      replace hb1 := (Below.alloc0 (Below.refl w.heap.size w) _).trans (hb1.mono (by simp))
      rw [hq.out.1, hq.out.2.1, hq.out.2.2]
      go_wp2_with (go_at_call 81; refine (l1In_any _ _ _ _).mono ?_; rintro e w' ⟨rfl, rfl⟩; rw [hkin])
      go_ret2
      rw [hp.out.1, hp.out.2]
      exact ⟨_, _, rfl, hE, hb1⟩
    cases hin : inB n 1 k
    · have hp := Lib.hid (dd_none (ty := ty) (dd_wide (k := k) hg0 (by rw [hin]; rintro ⟨_, h⟩; cases h)))
      clear hg0
      go_enter Try.func22, Try.ntmps22
      go_wp2_with fail
      refine (spec_GetNum _ _ _ _ ((hr.alloc (Nat.le_refl _) _).more (by simp)) hl 0 ⟨by omega, by omega⟩).mono ?_
      rintro e w1 ⟨rfl, hb1⟩
      have hE := own_step (own_empty (w := w) (base := w.heap.size) (size := 3) (e := 30) (Nat.le_refl _)) hb1
      replace hb1 := (Below.alloc0 (Below.refl w.heap.size w) _).trans (hb1.mono (by simp))
      rw [hq.out.1, hq.out.2.1, hq.out.2.2]
      go_wp2_with (go_at_call 81; refine (l1In_any _ _ _ _).mono ?_; rintro e w' ⟨rfl, rfl⟩; first | rw [hkin] | rw [hin])
      go_ret2
      rw [hp.out.1, hp.out.2]
      exact ⟨_, _, rfl, hE, hb1⟩
    obtain ⟨N, rfl⟩ := Int.eq_ofNat_of_zero_le (show 0 ≤ n by have := inB_iff.1 hin; omega)
    have hN1 : 1 ≤ N := by have := inB_iff.1 hin; omega
    have hN2 : N ≤ 64 := by have h1 := inB_iff.1 hin; have h2 := inB_iff.1 hkin; omega
    have hpl := (getNum_put (p := 0) hg0).2.1
    have hp0 := (getNum_put (p := 0) hg0).1
    have HG := Lib.hid hg0
    clear hg0
    go_enter Try.func22, Try.ntmps22
    go_wp2_with fail
    refine (spec_GetNum _ _ _ _ ((hr.alloc (Nat.le_refl _) _).more (by simp)) hl 0 ⟨by omega, by omega⟩).mono ?_
    rintro e w1 ⟨rfl, hb1⟩
    have hE := own_step (own_empty (w := w) (base := w.heap.size) (size := 3) (e := 30) (Nat.le_refl _)) hb1
    replace hb1 := (Below.alloc0 (Below.refl w.heap.size w) _).trans (hb1.mono (by simp))
    rw [hq.out.1, hq.out.2.1, hq.out.2.2]
    have hsz1 := hb1.size
    go_wp2_with (go_at_call 81; refine (l1In_any _ _ _ _).mono ?_; rintro e w' ⟨rfl, rfl⟩; first | rw [hkin] | rw [hin])
    have HK := Lib.hid hkin
    clear hin hkin
    go_loopw [10, 12, 13] (fun a o i wr => ∃ (j : Nat) (L : List V) (q : Nat) (A' : Option Addr) (c' : Nat), j ≤ N ∧ q ≤ bs.length ∧ i = .int .i64 j ∧ o = .slice A' j c' ∧ a = .int .i64 q ∧ wr.ownsRow w.heap.size 30 3 (.slice A' j c') j (valCells L) ∧ Hid (dvAcc bs ty N [] (p : Int) = dvAcc bs ty (N - j) L (q : Int)) ∧ Hid (L.length = j ∧ ∀ x ∈ L, x.ok) ∧ wr.ownsRow w.heap.size 30 3 (.slice (some ⟨w.heap.size, 0, none⟩) 0 0) 0 [] ∧ (Value.slice A' j c').ownBlock ≠ some w.heap.size ∧ Below w.heap.size w wr) (fun a o i _ => N - (intOf i).toNat)
    case atStart => exact ⟨0, [], p, _, _, Nat.zero_le _, hpl, rfl, rfl, rfl, own_empty hsz1, Lib.hid rfl, Lib.hid ⟨rfl, by simp⟩, hE.alloc _, (by rw [show (Value.slice (some ⟨w1.heap.size, 0, none⟩) 0 0).ownBlock = some w1.heap.size from rfl]; intro h; injection h with h; have := own_zero_lt hE; omega), hb1.alloc hsz1 _⟩
    case round =>
      clear hb1 hsz1 hE
      obtain ⟨j, L, q, A', c', hj, hqb, rfl, rfl, rfl, hown, hP, hLn, hE, hap, hbl⟩ := hrel
      have hsz := hbl.size
      by_cases hjN : j < N
      · cases hv : getVal bs (q : Int) ty with
        | none =>
          have hp3 := Lib.hid (dd_none (k := k) (dd_acc HG.out (dv_fail hP.out hjN hv)))
          have hT := Lib.hid (gvT_no hv)
          clear hv hP hLn hown
          go_wp2_with fail
          refine (spec_GetVal _ _ _ _ ((hr.below hbl (Nat.le_refl _)).more hsz) hl hcap _ ⟨by omega, by omega⟩ ty hty).mono ?_
          rintro e w5 ⟨rfl, hb5⟩
          have hbl5 := hbl.trans (hb5.mono hsz)
          replace hE := own_step hE hb5
          rw [hT.out]
          clear hbl hb5 hr hT
          go_wp2
          go_ret2
          rw [hp3.out.1, hp3.out.2]
          exact ⟨_, _, rfl, hE.alloc _, hbl5.alloc hbl5.size _⟩
        | some r =>
          obtain ⟨x, q2⟩ := r
          have hmo := Lib.hid (dv_more hP.out hjN hv)
          have hT := Lib.hid (gvT_yes hv)
          obtain ⟨-, hq2, hvok, -⟩ := getVal_put hv
          have hL2 := Lib.hid (And.intro (show (L ++ [x]).length = j + 1 by simp [hLn.out.1]) (ok_snoc' hLn.out.2 (valOk_ok hvok)))
          clear hv hP hLn hvok
          go_wp2_with fail
          refine (spec_GetVal _ _ _ _ ((hr.below hbl (Nat.le_refl _)).more hsz) hl hcap _ ⟨by omega, by omega⟩ ty hty).mono ?_
          rintro e w5 ⟨rfl, hb5⟩
          have hbl5 := hbl.trans (hb5.mono hsz)
          have hown5 := own_step hown hb5
          replace hE := own_step hE hb5
          rw [hT.out]
          clear hown hbl hb5 hr hT
          have hownW := hown5.alloc (.cells #[.int .i64 x.ty, .int .i64 x.n, .string x.s] 30)
          have hEW := hE.alloc (.cells #[.int .i64 x.ty, .int .i64 x.n, .string x.s] 30)
          have hblW := hbl5.alloc hbl5.size (.cells #[.int .i64 x.ty, .int .i64 x.n, .string x.s] 30)
          have hszW := hblW.size
          clear hown5 hbl5 hE
          go_wp2_with (at_builtin; go_loud (refine append_one_b rfl (.tmp 59) (.tmp 61) 28 rfl w.heap.size 30 i0 _ 3 32 Try.underlying28 hi0 hz0 hz1 hz2 rfl (by omega) (by omega) A' j c' _ rfl hownW w.heap.size (own_zero_lt hEW) hap [.int .i64 x.ty, .int .i64 x.n, .string x.s] _ rfl (by first | rfl | simp) rfl (by simp [Value.oneCell']) hszW (by omega) ?_); intro A2 c2 w2 hown2 hb2 hk2 hap2)
          rw [valCells_app] at hown2
          have hbl2 := hblW.trans hb2
          have hE2 := own_zero (w' := w2) hEW hk2
          clear hownW hblW hb2 hszW hEW hk2 hap
          go_wp2
          go_roundw
          case rel => exact ⟨j + 1, L ++ [x], q2, A2, c2, by omega, hq2, by go_num, rfl, rfl, hown2, hmo, hL2, hE2, hap2, hbl2⟩
          case measure => simp [intOf]; omega
      · have hjk : j = N := by omega
        have hd := dv_end hP.out hjN
        have hdo := hLn.out.2
        have hdn := hLn.out.1
        obtain ⟨d, hdd⟩ : ∃ d, d = L := ⟨_, rfl⟩
        obtain ⟨Q, hQ⟩ : ∃ Q, Q = q := ⟨_, rfl⟩
        subst hdd
        subst hQ
        rw [← hdn] at hown ⊢
        have hdl : d.length ≤ 64 := by omega
        have hkin := HK.out
        have hfull := fun hu => dd_full (k := k) HG.out hd hN1 hkin hu
        have hnoup := fun hu => dd_noup (k := k) HG.out hd hu
        have hend := dd_end (k := k) HG.out hd
        have hbX := hbl
        have hod := hown
        have hlt : ¬ d.length < N := by omega
        clear hap hd hP hLn hbl hown hsz hjk hdn hjN hkin hj
        obtain ⟨b0, off0, rfl⟩ : ∃ b off, A = some ⟨b, off, none⟩ := by
          obtain ⟨b, off, he, _⟩ := hr.2 (by omega)
          exact ⟨b, off, he⟩
        obtain ⟨o13, ho⟩ : ∃ o, o = if c = Q then off0 else off0 + Q := ⟨_, rfl⟩
        have kq0 : (0 : Int) ≤ (Q : Int) := by omega
        have kq1 : (Q : Int) ≤ (c : Int) := by omega
        have kq2 : (Q : Int) ≤ (bs.length : Int) := by omega
        have hldr : (bs.drop Q).length = bs.length - Q := List.length_drop
        have hnw : IntKind.i64.wrap ((N : Int) - 1) = (N : Int) - 1 := by rw [IntKind.wrap_i64]; omega
        have hwb := widthOf_bd ((N : Int) - 1)
        go_wp2_with fail
        refine wp_region_any (by kernel_rfl) ?_
        change wpAny _ _ _ _ _ _ _ (World.drew _)
        replace hod : wr.drew.ownsRow w.heap.size 30 3 (.slice A' d.length c') d.length (valCells d) := hod
        replace hE : wr.drew.ownsRow w.heap.size 30 3 (.slice (some ⟨w.heap.size, 0, none⟩) 0 0) 0 [] := hE
        replace hbX := hbX.drew
        generalize wr.drew = w4 at hod hbX hE ⊢
        refine wpAny_take (i := 0) (v := .slice (some ⟨b0, off0, none⟩) bs.length c) rfl (by kernel_rfl) (by kernel_rfl) (by kernel_rfl) (fun _ _ _ h => h) (Or.inl ⟨by kernel_rfl, fun _ => by kernel_rfl⟩) ?_
        refine wpAny_take (i := 1) (v := .int .i64 (Q : Int)) rfl (by kernel_rfl) (by kernel_rfl) (by kernel_rfl) (fun _ _ _ h => h) (Or.inl ⟨by kernel_rfl, fun _ => by kernel_rfl⟩) ?_
        refine wpAny_take (i := 2) (v := .slice (some ⟨b0, o13, none⟩) (bs.length - Q) (c - Q)) rfl (by kernel_rfl) (by kernel_rfl) (by kernel_rfl) (fun _ _ _ h => h) (Or.inl ⟨by kernel_rfl, fun _ => by rw [ho]; go_simp; split <;> rfl⟩) ?_
        have HO := Lib.hid ho
        clear ho
        refine wpAny_take (i := 3) (v := .int .i64 (N : Int)) rfl (by kernel_rfl) (by kernel_rfl) (by kernel_rfl) (fun _ _ _ h => h) (Or.inl ⟨by kernel_rfl, fun _ => by kernel_rfl⟩) ?_
        refine wpAny_take (i := 4) (v := .int .i64 ((N : Int) - 1)) rfl (by kernel_rfl) (by kernel_rfl) (by kernel_rfl) (fun _ _ _ h => h) (Or.inl ⟨by kernel_rfl, fun _ => by go_simp⟩) ?_
        refine wpAny_take (i := 6) (v := .int .i64 k) rfl (by kernel_rfl) (by kernel_rfl) (by kernel_rfl) (fun _ _ _ h => h) (Or.inl ⟨by kernel_rfl, fun _ => by kernel_rfl⟩) ?_
        refine wpAny_ready (rs := [5]) (by kernel_rfl) (by simp) ?_
        refine AllReady.cons rfl (fun K hK => ?_) AllReady.nil
        go_simp
        refine (spec_WidthOf _ ((N : Int) - 1) ⟨by omega, by omega⟩).mono ?_
        rintro e w5 ⟨rfl, hb_5⟩
        try go_simp
        refine hK _ _ ?_
        clear hK K
        have hbl5 := hbX.trans (hb_5.mono hbX.size)
        replace hod := own_step hod hb_5
        replace hE := own_step hE hb_5
        clear hb_5 hbX
        refine wpAny_ready (rs := [7]) (by kernel_rfl) (by simp) ?_
        refine AllReady.cons rfl (fun K hK => ?_) AllReady.nil
        go_simp
        rw [← hldr]
        refine (spec_UnpackBits _ _ _ (bs.drop Q) (drop_reads ((hr.below hbl5 (Nat.le_refl _)).more hbl5.size) hcap HO.out) (by omega) (widthOf ((N : Int) - 1)) ⟨by omega, by omega⟩ k hk).mono ?_
        rintro e w6 ⟨A6, c6, rfl, hou, hb_6⟩
        try go_simp
        refine hK _ _ ?_
        clear hK K
        have hbl6 := hbl5.trans (hb_6.mono hbl5.size)
        replace hod := own_step hod hb_6
        replace hE := own_step hE hb_6
        clear hb_6 hbl5
        have hul := upL_len (bs.drop Q) (widthOf ((N : Int) - 1)) k
        have hui := up_I64 (bs.drop Q) (widthOf ((N : Int) - 1)) k
        rw [show upL (bs.drop Q) (widthOf ((N : Int) - 1)) k = ddU bs k (N : Int) Q from rfl] at hou hul hui ⊢
        refine wpAny_take (i := 8) (v := .tuple #[.slice A6 (ddU bs k (N : Int) Q).length c6, .bool (upOk (bs.drop Q) (widthOf ((N : Int) - 1)) k)]) rfl (by kernel_rfl) (by kernel_rfl) (by kernel_rfl) (fun _ _ _ h => h) (Or.inl ⟨by kernel_rfl, fun _ => by kernel_rfl⟩) ?_
        refine wpAny_take (i := 9) (v := .slice A6 (ddU bs k (N : Int) Q).length c6) rfl (by kernel_rfl) (by kernel_rfl) (by kernel_rfl) (fun _ _ _ h => h) (Or.inl ⟨by kernel_rfl, fun _ => by go_simp⟩) ?_
        refine wpAny_take (i := 10) (v := .bool (upOk (bs.drop Q) (widthOf ((N : Int) - 1)) k)) rfl (by kernel_rfl) (by kernel_rfl) (by kernel_rfl) (fun _ _ _ h => h) (Or.inl ⟨by kernel_rfl, fun _ => by go_simp⟩) ?_
        refine wpAny_take (i := 11) (v := .slice A6 (ddU bs k (N : Int) Q).length c6) rfl (by kernel_rfl) (by kernel_rfl) (by kernel_rfl) (fun _ _ _ h => h) (Or.inl ⟨by kernel_rfl, fun _ => by kernel_rfl⟩) ?_
        refine wpAny_take (i := 12) (v := .bool (upOk (bs.drop Q) (widthOf ((N : Int) - 1)) k)) rfl (by kernel_rfl) (by kernel_rfl) (by kernel_rfl) (fun _ _ _ h => h) (Or.inl ⟨by kernel_rfl, fun _ => by kernel_rfl⟩) ?_
        refine wpAny_done (by kernel_rfl) ?_ _
        have hpick := picked_ok (xs := ddU bs k (N : Int) Q) hdo
        have hpkl := pickedL_len d (ddU bs k (N : Int) Q)
        have hpl2 := fun h => pick_len (d := d) (xs := ddU bs k (N : Int) Q) h
        go_wp2_with fail
        refine (spec_Picked _ _ _ d (own_reads hod) (by omega) hdo _ _ (ddU bs k (N : Int) Q) (own_reads hou) (by omega) hui).mono ?_
        rintro e w7 ⟨A7, c7, rfl, hol, hb_7⟩
        have hbl7 := hbl6.trans (hb_7.mono hbl6.size)
        replace hol := own_lower hol hbl6.size
        replace hE := own_step hE hb_7
        clear hb_7 hbl6 hod hou
        cases hu : upOk (bs.drop Q) (widthOf ((N : Int) - 1)) k
        · have hp := Lib.hid (dd_none (hnoup hu))
          clear hfull hnoup hend hu hol hr hpl2
          go_wp2
          go_ret2
          rw [hp.out.1, hp.out.2]
          exact ⟨_, _, rfl, hE, hbl7⟩
        cases hcn : pickedOk d (ddU bs k (N : Int) Q)
        · have hp := Lib.hid (dd_none (bs := bs) (ty := ty) (k := k) (by
            rw [hend]
            split
            · unfold ddEnd
              rw [if_neg (by rw [hcn]; rintro ⟨_, h, _⟩; cases h)]
            · rfl))
          clear hfull hnoup hend hu hol hr hpl2 hcn
          go_wp2
          go_ret2
          rw [hp.out.1, hp.out.2]
          exact ⟨_, _, rfl, hE, hbl7⟩
        obtain ⟨hy, hn⟩ := hfull hu
        have hlk : (((pickedL d (ddU bs k (N : Int) Q)).length : Int) = k) := by rw [hpl2 hcn]; exact up_len hu
        generalize pickedL d (ddU bs k (N : Int) Q) = l at hy hn hlk hol hpick hpkl ⊢
        have hye := fun h => dd_some (hy ⟨hlk, h⟩)
        have hne := fun (h : ¬ bs = encDict l) => dd_none (hn (fun hh => h hh.2))
        clear hfull hnoup hend hu hpl2 hcn hy hn hlk
        go_wp2_with fail
        refine (spec_EncDict _ _ _ l (own_reads hol) (own_nil hol) (by omega) hpick).mono ?_
        rintro e w8 ⟨A8, c8, rfl, hoe, hb_8⟩
        have hbl8 := hbl7.trans (hb_8.mono hbl7.size)
        replace hol := own_step hol hb_8
        replace hE := own_step hE hb_8
        clear hb_8 hbl7
        go_wp2_with fail
        refine (spec_l5Same _ _ _ (encDict l) (own_reads hoe) (own_aform hoe) _ _ bs ((hr.below hbl8 (Nat.le_refl _)).more hbl8.size) hA).mono ?_
        rintro e w9 ⟨rfl, rfl⟩
        by_cases hc : bs = encDict l
        · have hp := Lib.hid (hye hc)
          rw [decide_eq_true hc.symm]
          clear hye hne hc hr hoe
          go_wp2
          go_ret2
          rw [hp.out.1, hp.out.2]
          exact ⟨_, _, rfl, hol, hbl8⟩
        · have hp := Lib.hid (hne hc)
          rw [decide_eq_false (fun h => hc h.symm)]
          clear hye hne hc hr hoe hol
          go_wp2
          go_ret2
          rw [hp.out.1, hp.out.2]
          exact ⟨_, _, rfl, hE, hbl8⟩

end Go.Proofs.Ytkgkommlfceneaa
