/-
  Contract of DecRuns in the program.
-/
import Derived.Test.YtgpimlmolcjeoaaDecr
namespace Go.Proofs.Ytgpimlmolcjeoaa
open Go.RowKit
set_option linter.unusedVariables false
set_option maxRecDepth 100000

set_option maxHeartbeats 1600000 in
theorem impl_DecRuns (w : World) (A : Option Addr) (c : Nat) (bs : List UInt8) (hr : Reads w w.heap.size 1 A bs.length (byteCells bs)) (hl : bs.length ≤ 1099511627776) (hcap : bs.length ≤ c) (hA : AForm A) (ty : Int) (hty : I64 ty) (k : Int) (hk : I64 k) :
    Calls Try.prog 29 #[.slice A bs.length c, .int .i64 ty, .int .i64 k] w fun e w' => ∃ A' c', e = .returned (.tuple #[.slice A' (drL bs ty k).length c', .bool (drOk bs ty k)]) ∧
      w'.ownsRow w.heap.size 37 3 (.slice A' (drL bs ty k).length c') (drL bs ty k).length (valCells (drL bs ty k)) ∧ Below w.heap.size w w' := by
  obtain ⟨i0, hi0, hz0, hz1, hz2⟩ := info_parts info_Run
  cases hg0 : getNum bs 0 with
  | none =>
    have hq := Lib.hid (gv_nonum hg0)
    have hp := Lib.hid (dr_none (ty := ty) (k := k) (dr_nonum hg0))
    clear hg0
    go_enter Try.func29, Try.ntmps29
    go_wp2_with fail
    refine (impl_GetNum _ _ _ _ hr hl 0 ⟨by omega, by omega⟩).mono ?_
    rintro e w1 ⟨rfl, hb1⟩
    rw [hq.out.1, hq.out.2.1, hq.out.2.2]
    go_wp2
    go_ret2
    rw [hp.out.1, hp.out.2]
    exact ⟨none, 0, rfl, World.ownsRow_nil _ _ _ _, hb1⟩
  | some r =>
    obtain ⟨n, p⟩ := r
    have hq := Lib.hid (gv_num hg0)
    cases hin : inB n 1 64
    · have hp := Lib.hid (dr_none (ty := ty) (k := k) (dr_widen hg0 hin))
      clear hg0
      go_enter Try.func29, Try.ntmps29
      go_wp2_with fail
      refine (impl_GetNum _ _ _ _ hr hl 0 ⟨by omega, by omega⟩).mono ?_
      rintro e w1 ⟨rfl, hb1⟩
      rw [hq.out.1, hq.out.2.1, hq.out.2.2]
      go_wp2_with (go_at_call 59; refine (within_any _ _ _ _).mono ?_; rintro e w' ⟨rfl, rfl⟩; rw [hin])
      go_ret2
      rw [hp.out.1, hp.out.2]
      exact ⟨none, 0, rfl, World.ownsRow_nil _ _ _ _, hb1⟩
    obtain ⟨N, rfl, hN1, hN2⟩ := inB_nat hin
    have hpl := (getNum_put (p := 0) hg0).2.1
    have HG := Lib.hid hg0
    clear hg0
    go_enter Try.func29, Try.ntmps29
    go_wp2_with fail
    refine (impl_GetNum _ _ _ _ hr hl 0 ⟨by omega, by omega⟩).mono ?_
    rintro e w1 ⟨rfl, hb1⟩
    rw [hq.out.1, hq.out.2.1, hq.out.2.2]
    go_wp2_with fail
    refine (within_any _ _ _ _).mono ?_
    rintro e w' ⟨rfl, rfl⟩
    rw [hin]
    have hsz1 := hb1.size
    go_wp2_with fail
    go_loopw [9, 11, 12] (fun a o i wr => ∃ (j : Nat) (R : List (V × Int)) (q : Nat) (A' : Option Addr) (c' : Nat), j ≤ N ∧ q ≤ bs.length ∧ i = .int .i64 j ∧ o = .slice A' j c' ∧ a = .int .i64 q ∧ wr.ownsRow w.heap.size 44 4 (.slice A' j c') j (runCells R) ∧ Hid (drAcc bs ty N [] p = drAcc bs ty (N - j) R q) ∧ Hid (R.length = j ∧ ∀ r ∈ R, runOk r) ∧ Below w.heap.size w wr) (fun _ _ i _ => N - (intOf i).toNat)
    case atStart => exact ⟨0, [], p, _, _, Nat.zero_le _, hpl, rfl, rfl, rfl, own_empty hsz1, Lib.hid rfl, Lib.hid ⟨rfl, by simp⟩, hb1.alloc hsz1 _⟩
    case round =>
      clear hb1 hsz1 hpl
      obtain ⟨j, R, q, A', c', hj, hqb, rfl, rfl, rfl, hown, hP, hRL, hbl⟩ := hrel
      have hsz := hbl.size
      by_cases hjN : j < N
      · cases hg : getNum bs (q : Int) with
        | none =>
          have hp3 := Lib.hid (dr_none (k := k) (dr_acc HG.out hin (dr_fail1 hP.out hjN hg)))
          have hq3 := Lib.hid (gv_nonum hg)
          clear hg hP hRL hown hin
          go_wp2_with fail
          refine (impl_GetNum _ _ _ _ ((hr.below hbl (Nat.le_refl _)).more hsz) hl _ ⟨by omega, by omega⟩).mono ?_
          rintro e w5 ⟨rfl, hb5⟩
          have hbl5 := hbl.trans (hb5.mono hsz)
          rw [hq3.out.1, hq3.out.2.1, hq3.out.2.2]
          clear hbl hb5 hr
          go_wp2
          go_ret2
          rw [hp3.out.1, hp3.out.2]
          exact ⟨none, 0, rfl, World.ownsRow_nil _ _ _ _, hbl5⟩
        | some r =>
          obtain ⟨m, q1⟩ := r
          have hq3 := Lib.hid (gv_num hg)
          obtain ⟨-, hq1b, hmin, -⟩ := getNum_put hg
          have hm64 := inB_I64 hmin
          clear hmin
          cases hv : getVal bs (q1 : Int) ty with
          | none =>
            have hp3 := Lib.hid (dr_none (k := k) (dr_acc HG.out hin (dr_fail2 hP.out hjN hg hv)))
            have hT := Lib.hid (gvT_no hv)
            clear hg hv hP hRL hown hin
            go_wp2_with fail
            refine (impl_GetNum _ _ _ _ ((hr.below hbl (Nat.le_refl _)).more hsz) hl _ ⟨by omega, by omega⟩).mono ?_
            rintro e w5 ⟨rfl, hb5⟩
            have hbl5 := hbl.trans (hb5.mono hsz)
            have hsz5 := hbl5.size
            rw [hq3.out.1, hq3.out.2.1, hq3.out.2.2]
            clear hbl hb5
            go_wp2_with fail
            refine (impl_GetVal _ _ _ _ ((hr.below hbl5 (Nat.le_refl _)).more hsz5) hl hcap _ ⟨by omega, by omega⟩ ty hty).mono ?_
            rintro e w6 ⟨rfl, hb6⟩
            have hbl6 := hbl5.trans (hb6.mono hsz5)
            rw [hT.out]
            clear hbl5 hb6 hr hT
            go_wp2
            go_ret2
            rw [hp3.out.1, hp3.out.2]
            exact ⟨none, 0, rfl, World.ownsRow_nil _ _ _ _, hbl6.alloc hbl6.size _⟩
          | some r2 =>
            obtain ⟨x, q2⟩ := r2
            have hmo := Lib.hid (dr_more hP.out hjN hg hv)
            have hT := Lib.hid (gvT_yes hv)
            obtain ⟨-, hq2b, hvok, -⟩ := getVal_put hv
            have hR2 := Lib.hid (And.intro (show (R ++ [(x, m)]).length = j + 1 by simp [hRL.out.1]) (runOk_snoc hRL.out.2 (valOk_ok hvok) hm64))
            clear hg hv hP hRL hvok hin
            go_wp2_with fail
            refine (impl_GetNum _ _ _ _ ((hr.below hbl (Nat.le_refl _)).more hsz) hl _ ⟨by omega, by omega⟩).mono ?_
            rintro e w5 ⟨rfl, hb5⟩
            have hbl5 := hbl.trans (hb5.mono hsz)
            have hown5 := own_step hown hb5
            have hsz5 := hbl5.size
            rw [hq3.out.1, hq3.out.2.1, hq3.out.2.2]
            clear hbl hb5 hown
            go_wp2_with fail
            refine (impl_GetVal _ _ _ _ ((hr.below hbl5 (Nat.le_refl _)).more hsz5) hl hcap _ ⟨by omega, by omega⟩ ty hty).mono ?_
            rintro e w6 ⟨rfl, hb6⟩
            have hbl6 := hbl5.trans (hb6.mono hsz5)
            have hown6 := own_step hown5 hb6
            rw [hT.out]
            clear hbl5 hb6 hr hT hown5 hsz5
            have hownW := hown6.alloc (.cells #[.int .i64 x.ty, .int .i64 x.n, .string x.s] 37)
            have hblW := hbl6.alloc hbl6.size (.cells #[.int .i64 x.ty, .int .i64 x.n, .string x.s] 37)
            have hszW := hblW.size
            clear hown6 hbl6
            go_wp2_with (at_builtin; go_loud (refine append_one rfl (.tmp 57) (.tmp 61) 40 rfl w.heap.size 44 i0 _ 4 40 Try.underlying40 hi0 hz0 hz1 hz2 rfl (by omega) (by omega) A' j c' _ rfl hownW [.int .i64 x.ty, .int .i64 x.n, .string x.s, .int .i64 m] _ rfl (by first | rfl | simp) rfl (by simp [Value.oneCell']) hszW (by omega) ?_); intro A2 c2 w2 hown2 hb2)
            rw [runCells_snoc] at hown2
            have hbl2 := hblW.trans hb2
            clear hownW hblW hb2 hszW
            go_wp2
            go_roundw
            case rel => exact ⟨j + 1, R ++ [(x, m)], q2, A2, c2, by omega, hq2b, by go_num, rfl, rfl, hown2, hmo, hR2, hbl2⟩
            case measure => simp [intOf]; omega
      · have hd := Lib.hid (dr_end hP.out hjN)
        have hRL' := hRL.out.1
        have hRok := hRL.out.2
        subst hRL'
        clear hP hRL
        go_wp2_with fail
        refine (impl_Spread _ _ _ R (own_reads hown) (by omega) hRok).mono ?_
        rintro e w3 ⟨A3, c3, rfl, hown3, hb3⟩
        have hbl3 := hbl.trans (hb3.mono hsz)
        have hsl := Lib.hid (spreadOf_len R)
        have hlok := spread_ok hRok
        have hl64 : (spreadOf R).length ≤ 1099511627776 := by have := hsl.out; omega
        obtain ⟨l, hl'⟩ : ∃ l, l = spreadOf R := ⟨_, rfl⟩
        have HL := Lib.hid hl'
        rw [← hl'] at hown3 hlok hl64 ⊢
        clear hl' hown hbl hb3 hRok
        go_wp2_with fail
        refine (impl_EncRuns _ _ _ l (own_reads hown3) hl64 hlok).mono ?_
        rintro e w4 ⟨A4, c4, rfl, hown4, hb4⟩
        have hbl4 := hbl3.trans (hb4.mono hbl3.size)
        have hown3' := own_low' (own_step hown3 hb4) hsz
        have hr4 := hr.below hbl4 (Nat.le_refl _)
        clear hb4 hown3 hlok
        cases hkin : inB k 1 64
        · have hp3 := Lib.hid (dr_none (ty := ty) (dr_widek HG.out hkin))
          go_wp2_with fail
          refine (impl_decoded_wide _ _ _ _ _ _ _ _ _ _ _ hkin).mono ?_
          rintro e w5 ⟨rfl, rfl⟩
          go_wp2
          go_ret2
          rw [hp3.out.1, hp3.out.2]
          exact ⟨none, 0, rfl, World.ownsRow_nil _ _ _ _, hbl4⟩
        by_cases hfin : ((l.length : Int) = k ∧ bs = encRuns l)
        · have hp3 := Lib.hid (dr_some (dr_yes HG.out hin hkin hd.out (by rw [← HL.out]; exact hfin.1) (by rw [← HL.out]; exact hfin.2)))
          have h1 := Lib.hid hfin.1
          have h2 := Lib.hid hfin.2
          clear hfin
          go_wp2_with fail
          refine (impl_decoded_yes _ _ _ _ hr4 hA _ _ _ (own_reads hown4) (own_aform hown4) _ l.length _ _ hkin h1.out h2.out).mono ?_
          rintro e w5 ⟨rfl, rfl⟩
          go_wp2
          go_ret2
          rw [hp3.out.1, hp3.out.2, ← HL.out]
          exact ⟨_, _, rfl, hown3', hbl4⟩
        · have hp3 := Lib.hid (dr_none (dr_no HG.out hd.out (by rw [← HL.out]; exact hfin)))
          have h1 := Lib.hid hfin
          clear hfin
          go_wp2_with fail
          refine (impl_decoded_no _ _ _ _ hr4 hA _ _ _ (own_reads hown4) (own_aform hown4) _ l.length _ _ hkin h1.out).mono ?_
          rintro e w5 ⟨rfl, rfl⟩
          go_wp2
          go_ret2
          rw [hp3.out.1, hp3.out.2]
          exact ⟨none, 0, rfl, World.ownsRow_nil _ _ _ _, hbl4⟩

end Go.Proofs.Ytgpimlmolcjeoaa
