/-
  Contract of DecPlain in the program.
-/
import Derived.Test.YtgpimlmolcjeoaaGvs
import Derived.Test.YtgpimlmolcjeoaaDecd
namespace Go.Proofs.Ytgpimlmolcjeoaa
open Go.RowKit
set_option linter.unusedVariables false
set_option maxRecDepth 100000

set_option maxHeartbeats 3200000 in
theorem impl_DecPlain (w : World) (A : Option Addr) (c : Nat) (bs : List UInt8) (hr : Reads w w.heap.size 1 A bs.length (byteCells bs)) (hl : bs.length ≤ 1099511627776) (hcap : bs.length ≤ c) (hA : AForm A) (ty : Int) (hty : I64 ty) (k : Int) (hk : I64 k) :
    Calls Try.prog 31 #[.slice A bs.length c, .int .i64 ty, .int .i64 k] w fun e w' => ∃ A' c', e = .returned (.tuple #[.slice A' (dpL bs ty k).length c', .bool (dpOk bs ty k)]) ∧
      w'.ownsRow w.heap.size 37 3 (.slice A' (dpL bs ty k).length c') (dpL bs ty k).length (valCells (dpL bs ty k)) ∧ Below w.heap.size w w' := by
  cases hin : inB k 1 64
  · have hp := Lib.hid (dp_wide (bs := bs) (ty := ty) hin)
    go_enter Try.func31, Try.ntmps31
    go_wp2_with fail
    refine (within_any _ _ _ _).mono ?_
    rintro e w' ⟨rfl, rfl⟩
    rw [hin]
    go_wp2
    go_ret2
    rw [hp.out.1, hp.out.2]
    exact ⟨none, 0, rfl, World.ownsRow_nil _ _ _ _, Below.refl _ _⟩
  obtain ⟨K, rfl, hK1, hK2⟩ := inB_nat hin
  go_enter Try.func31, Try.ntmps31
  go_wp2_with fail
  refine (within_any _ _ _ _).mono ?_
  rintro e w' ⟨rfl, rfl⟩
  rw [hin]
  go_wp2_with fail
  refine (impl_getVals _ _ _ _ hr hl hcap 0 ⟨by omega, by omega⟩ ty hty K hK2).mono ?_
  rintro e w1 ⟨A1, c1, rfl, hown1, hbl1⟩
  have hr1 := hr.below hbl1 (Nat.le_refl _)
  cases hd : dvAcc bs ty K [] 0 with
  | none =>
    have hp := Lib.hid (dp_none hd)
    have hg := Lib.hid (gvs_none hd)
    have hnil : (gvsL bs ty K 0).length = 0 := by rw [hg.out.1]; rfl
    rw [hg.out.1, hg.out.2.1, hg.out.2.2]
    rw [hg.out.1] at hown1
    have hne := own_nil hown1
    clear hd
    go_wp2_with fail
    refine (impl_EncPlain _ _ _ [] (own_reads hown1) (by simp) (by simp)).mono ?_
    rintro e w2 ⟨A2, c2, rfl, hown2, hb2⟩
    have hbl2 := hbl1.trans (hb2.mono hbl1.size)
    go_wp2_with fail
    refine (impl_decoded_no _ _ _ _ (hr1.below hb2 hbl1.size) hA _ _ _ (own_reads hown2) (own_aform hown2) _ 0 _ _ hin (fun h => by have := h.1; omega)).mono ?_
    rintro e w3 ⟨rfl, rfl⟩
    go_wp2
    go_ret2
    rw [hp.out.1, hp.out.2]
    exact ⟨none, 0, rfl, World.ownsRow_nil _ _ _ _, hbl2⟩
  | some r =>
    obtain ⟨l, q⟩ := r
    obtain ⟨hll, -, -, hlok, -⟩ := enc_dv hK1 hK2 hd
    have hfull := Lib.hid (dec_full hK1 hK2 hd)
    have hl64 : l.length ≤ 1099511627776 := by omega
    have hnl := Lib.hid (show ((l.length : Nat) : Int) = (K : Int) by omega)
    clear hll
    have hg := Lib.hid (gvs_some hd)
    rw [hg.out.1, hg.out.2.1, hg.out.2.2]
    rw [hg.out.1] at hown1
    go_wp2_with fail
    refine (impl_EncPlain _ _ _ l (own_reads hown1) hl64 hlok).mono ?_
    rintro e w2 ⟨A2, c2, rfl, hown2, hb2⟩
    have hbl2 := hbl1.trans (hb2.mono hbl1.size)
    have hown1' := own_step hown1 hb2
    by_cases hq : q = (bs.length : Int)
    · have hp := Lib.hid (dp_good hK1 hK2 hd hq)
      have heq := Lib.hid (hfull.out.2 hq).symm
      have hq' := Lib.hid hq
      clear hd hfull hq
      go_wp2_with fail
      refine (impl_decoded_yes _ _ _ _ (hr1.below hb2 hbl1.size) hA _ _ _ (own_reads hown2) (own_aform hown2) _ l.length _ _ hin hnl.out heq.out).mono ?_
      rintro e w3 ⟨rfl, rfl⟩
      go_wp2
      go_ret2
      rw [hp.out.1, hp.out.2]
      exact ⟨_, _, rfl, hown1', hbl2⟩
    · have hp := Lib.hid (dp_cut hd hq)
      clear hd
      go_wp2_with fail
      refine (impl_decoded_no _ _ _ _ (hr1.below hb2 hbl1.size) hA _ _ _ (own_reads hown2) (own_aform hown2) _ l.length _ _ hin (fun h => hq (hfull.out.1 h.2.symm))).mono ?_
      rintro e w3 ⟨rfl, rfl⟩
      go_wp2
      go_ret2
      rw [hp.out.1, hp.out.2]
      exact ⟨none, 0, rfl, World.ownsRow_nil _ _ _ _, hbl2⟩

end Go.Proofs.Ytgpimlmolcjeoaa
