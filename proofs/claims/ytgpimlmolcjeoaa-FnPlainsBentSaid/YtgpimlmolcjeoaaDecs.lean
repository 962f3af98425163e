/-
  Contract of DecPlain in the reference.
-/
import Derived.Test.YtgpimlmolcjeoaaGvs
namespace Go.Proofs.Ytgpimlmolcjeoaa
open Go.RowKit
set_option linter.unusedVariables false
set_option maxRecDepth 100000

set_option maxHeartbeats 3200000 in
theorem spec_DecPlain (w : World) (A : Option Addr) (c : Nat) (bs : List UInt8) (hr : Reads w w.heap.size 1 A bs.length (byteCells bs)) (hl : bs.length ≤ 1099511627776) (hcap : bs.length ≤ c) (hA : AForm A) (ty : Int) (hty : I64 ty) (k : Int) (hk : I64 k) :
    Calls Try.prog 32 #[.slice A bs.length c, .int .i64 ty, .int .i64 k] w fun e w' => ∃ A' c', e = .returned (.tuple #[.slice A' (dpL bs ty k).length c', .bool (dpOk bs ty k)]) ∧
      w'.ownsRow w.heap.size 37 3 (.slice A' (dpL bs ty k).length c') (dpL bs ty k).length (valCells (dpL bs ty k)) ∧ Below w.heap.size w w' := by
  obtain ⟨i0, hi0, hz0, hz1, hz2⟩ := info_parts info_Val
  cases hin : inB k 1 64
  · have hp := Lib.hid (dp_wide (bs := bs) (ty := ty) hin)
    go_enter Try.func32, Try.ntmps32
    go_wp2_with (go_at_call 71; refine (l1In_any _ _ _ _).mono ?_; rintro e w' ⟨rfl, rfl⟩; rw [hin])
    go_ret2
    rw [hp.out.1, hp.out.2]
    exact ⟨_, _, rfl, own_empty (Nat.le_refl _), (Below.refl _ _).alloc (Nat.le_refl _) _⟩
  obtain ⟨K, rfl, hK1, hK2⟩ := inB_nat hin
  go_enter Try.func32, Try.ntmps32
  go_wp2_with (go_at_call 71; refine (l1In_any _ _ _ _).mono ?_; rintro e w' ⟨rfl, rfl⟩; rw [hin])
  go_loopw [8, 9, 10] (fun o a i wr => ∃ (j : Nat) (L : List V) (q : Int) (A' : Option Addr) (c' : Nat), j ≤ K ∧ I64 q ∧ i = .int .i64 j ∧ o = .slice A' j c' ∧ a = .int .i64 q ∧ wr.ownsRow w.heap.size 37 3 (.slice A' j c') j (valCells L) ∧ Hid (dvAcc bs ty K [] 0 = dvAcc bs ty (K - j) L q) ∧ Hid (L.length = j) ∧ Below w.heap.size w wr) (fun o a i _ => K - (intOf i).toNat)
  case atStart => exact ⟨0, [], _, _, _, Nat.zero_le _, ⟨by omega, by omega⟩, rfl, rfl, rfl, own_empty (Nat.le_refl _), Lib.hid rfl, Lib.hid rfl, (Below.refl _ _).alloc (Nat.le_refl _) _⟩
  case round =>
    obtain ⟨j, L, q, A', c', hj, hq64, rfl, rfl, rfl, hown, hP, hLn, hbl⟩ := hrel
    have hsz := hbl.size
    by_cases hjK : j < K
    · cases hg : getVal bs q ty with
      | none =>
        have hno := Lib.hid (dv_fail hP.out hjK hg)
        have hT := Lib.hid (gvT_no hg)
        clear hg hP hLn
        go_wp2_with fail
        refine (spec_GetVal _ _ _ _ ((hr.below hbl (Nat.le_refl _)).more hsz) hl hcap q hq64 ty hty).mono ?_
        rintro e w5 ⟨rfl, hb5⟩
        have hbl5 := hbl.trans (hb5.mono hsz)
        rw [hT.out]
        clear hown hbl hb5 hr hT
        have hp3 := Lib.hid (dp_none hno.out)
        go_wp2
        go_ret2
        rw [hp3.out.1, hp3.out.2]
        exact ⟨_, _, rfl, own_empty_at (by simp) (Below.size (hbl5.alloc hbl5.size _)), (hbl5.alloc hbl5.size _).alloc (Below.size (hbl5.alloc hbl5.size _)) _⟩
      | some r =>
        obtain ⟨x, q2⟩ := r
        have hmo := Lib.hid (dv_more hP.out hjK hg)
        have hT := Lib.hid (gvT_yes hg)
        have hq2 := getVal_le hg
        clear hg hP
        go_wp2_with fail
        refine (spec_GetVal _ _ _ _ ((hr.below hbl (Nat.le_refl _)).more hsz) hl hcap q hq64 ty hty).mono ?_
        rintro e w5 ⟨rfl, hb5⟩
        have hbl5 := hbl.trans (hb5.mono hsz)
        have hown5 := own_step hown hb5
        have hsz5 : w.heap.size ≤ w5.heap.size := hbl5.size
        rw [hT.out]
        clear hown hbl hb5 hr hT
        have hownW := hown5.alloc (.cells #[.int .i64 x.ty, .int .i64 x.n, .string x.s] 37)
        have hblW := hbl5.alloc hsz5 (.cells #[.int .i64 x.ty, .int .i64 x.n, .string x.s] 37)
        have hszW := hblW.size
        go_wp2_with (at_builtin; go_loud (refine append_one rfl (.tmp 35) (.tmp 37) 24 rfl w.heap.size 37 i0 _ 3 32 Try.underlying24 hi0 hz0 hz1 hz2 rfl (by omega) (by omega) A' j c' _ rfl hownW [.int .i64 x.ty, .int .i64 x.n, .string x.s] _ rfl (by first | rfl | simp) rfl (by simp [Value.oneCell']) hszW (by omega) ?_); intro A2 c2 w2 hown2 hb2)
        rw [valCells_app] at hown2
        have hbl2 := hblW.trans hb2
        clear hownW hblW hown5 hbl5 hb2 hszW hsz5
        go_wp2
        go_roundw
        case rel => exact ⟨j + 1, L ++ [x], (q2 : Int), A2, c2, by omega, ⟨by omega, by omega⟩, by go_num, rfl, rfl, hown2, hmo, Lib.hid (by simp [hLn.out]), hbl2⟩
        case measure => simp [intOf]; omega
    · have hjk : j = K := by omega
      have hd := dv_end hP.out hjK
      have hLn' := hLn.out
      by_cases hqb : q = (bs.length : Int)
      · have hp3 := Lib.hid (dp_good hK1 hK2 hd hqb)
        subst hqb
        subst hLn'
        clear hP hjk hd
        go_wp2
        go_ret2
        rw [hp3.out.1, hp3.out.2]
        exact ⟨_, _, rfl, hown, hbl⟩
      · have hp3 := Lib.hid (dp_cut hd hqb)
        have hqbb : (q != (bs.length : Int)) = true := by simpa using hqb
        clear hP hjk hd hqb
        go_wp2
        go_ret2
        rw [hp3.out.1, hp3.out.2]
        exact ⟨_, _, rfl, own_empty hsz, hbl.alloc hsz _⟩

end Go.Proofs.Ytgpimlmolcjeoaa
