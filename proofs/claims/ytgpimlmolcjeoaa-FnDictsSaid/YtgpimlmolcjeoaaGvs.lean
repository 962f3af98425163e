/-
  Contract of getVals.
-/
import Derived.Test.YtgpimlmolcjeoaaGetv
import Derived.Test.YtgpimlmolcjeoaaAppend
import Derived.Test.YtgpimlmolcjeoaaDecd
namespace Go.Proofs.Ytgpimlmolcjeoaa
open Go.RowKit
set_option linter.unusedVariables false
set_option maxRecDepth 100000

theorem dv_fail {P : Option (List V × Int)} {bs : List UInt8} {ty : Int} {K j : Nat} {L : List V} {q : Int} (h : P = dvAcc bs ty (K - j) L q) (hj : j < K) (hg : getVal bs q ty = none) : P = none := by
  rw [h, show K - j = (K - (j + 1)) + 1 by omega]
  simp only [dvAcc, hg]
theorem dv_more {P : Option (List V × Int)} {bs : List UInt8} {ty : Int} {K j : Nat} {L : List V} {q : Int} {x : V} {q2 : Nat} (h : P = dvAcc bs ty (K - j) L q) (hj : j < K) (hg : getVal bs q ty = some (x, q2)) : P = dvAcc bs ty (K - (j + 1)) (L ++ [x]) (q2 : Int) := by
  rw [h, show K - j = (K - (j + 1)) + 1 by omega]
  simp only [dvAcc, hg]
theorem dv_end {P : Option (List V × Int)} {bs : List UInt8} {ty : Int} {K j : Nat} {L : List V} {q : Int} (h : P = dvAcc bs ty (K - j) L q) (hj : ¬ j < K) : P = some (L, q) := by
  rw [h, show K - j = 0 by omega]
  rfl
theorem getVal_le {bs : List UInt8} {a ty : Int} {x : V} {q : Nat} (h : getVal bs a ty = some (x, q)) : q ≤ bs.length := by
  by_cases h0 : 0 ≤ a
  · obtain ⟨p, rfl⟩ := Int.eq_ofNat_of_zero_le h0
    exact (getVal_put h).2.1
  · unfold getVal at h
    split at h
    · unfold getNum at h
      rw [if_pos (by omega)] at h
      cases h
    · rw [if_neg (by omega)] at h
      cases h
theorem valCells_app (L : List V) (x : V) : valCells L ++ [.int .i64 x.ty, .int .i64 x.n, .string x.s] = valCells (L ++ [x]) := by simp [valCells, V.enc]
def gvsL (bs : List UInt8) (ty : Int) (K : Nat) (a : Int) : List V := match dvAcc bs ty K [] a with | some (l, _) => l | none => []
def gvsP (bs : List UInt8) (ty : Int) (K : Nat) (a : Int) : Int := match dvAcc bs ty K [] a with | some (_, q) => q | none => 0
def gvsOk (bs : List UInt8) (ty : Int) (K : Nat) (a : Int) : Bool := (dvAcc bs ty K [] a).isSome
theorem gvs_none {bs : List UInt8} {ty : Int} {K : Nat} {a : Int} (h : dvAcc bs ty K [] a = none) : gvsL bs ty K a = [] ∧ gvsP bs ty K a = 0 ∧ gvsOk bs ty K a = false := by simp [gvsL, gvsP, gvsOk, h]
theorem gvs_some {bs : List UInt8} {ty : Int} {K : Nat} {a q : Int} {l : List V} (h : dvAcc bs ty K [] a = some (l, q)) : gvsL bs ty K a = l ∧ gvsP bs ty K a = q ∧ gvsOk bs ty K a = true := by simp [gvsL, gvsP, gvsOk, h]

set_option maxHeartbeats 3200000 in
theorem impl_getVals (w : World) (A : Option Addr) (c : Nat) (bs : List UInt8) (hr : Reads w w.heap.size 1 A bs.length (byteCells bs)) (hl : bs.length ≤ 1099511627776) (hcap : bs.length ≤ c) (p : Int) (hp : I64 p) (ty : Int) (hty : I64 ty) (K : Nat) (hK : K ≤ 64) :
    Calls Try.prog 62 #[.slice A bs.length c, .int .i64 p, .int .i64 ty, .int .i64 (K : Int)] w fun e w' => ∃ A' c', e = .returned (.tuple #[.slice A' (gvsL bs ty K p).length c', .int .i64 (gvsP bs ty K p), .bool (gvsOk bs ty K p)]) ∧
      w'.ownsRow w.heap.size 37 3 (.slice A' (gvsL bs ty K p).length c') (gvsL bs ty K p).length (valCells (gvsL bs ty K p)) ∧ Below w.heap.size w w' := by
  obtain ⟨i0, hi0, hz0, hz1, hz2⟩ := info_parts info_Val
  go_enter Try.func62, Try.ntmps62
  go_wp2
  go_loopw [1, 11, 12] (fun a o i wr => ∃ (j : Nat) (L : List V) (q : Int) (A' : Option Addr) (c' : Nat), j ≤ K ∧ I64 q ∧ i = .int .i64 j ∧ o = .slice A' j c' ∧ a = .int .i64 q ∧ wr.ownsRow w.heap.size 37 3 (.slice A' j c') j (valCells L) ∧ Hid (dvAcc bs ty K [] p = dvAcc bs ty (K - j) L q) ∧ Hid (L.length = j) ∧ Below w.heap.size w wr) (fun a o i _ => K - (intOf i).toNat)
  case atStart => exact ⟨0, [], _, _, _, Nat.zero_le _, hp, rfl, rfl, rfl, own_empty (Nat.le_refl _), Lib.hid rfl, Lib.hid rfl, (Below.refl _ _).alloc (Nat.le_refl _) _⟩
  case round =>
    obtain ⟨j, L, q, A', c', hj, hq64, rfl, rfl, rfl, hown, hP, hLn, hbl⟩ := hrel
    have hsz := hbl.size
    by_cases hjK : j < K
    · cases hg : getVal bs q ty with
      | none =>
        have hno := Lib.hid (dv_fail hP.out hjK hg)
        have hT := Lib.hid (gvT_no hg)
        clear hg hP hLn
        go_wp2_with fail
        refine (impl_GetVal _ _ _ _ ((hr.below hbl (Nat.le_refl _)).more hsz) hl hcap q hq64 ty hty).mono ?_
        rintro e w5 ⟨rfl, hb5⟩
        have hbl5 := hbl.trans (hb5.mono hsz)
        rw [hT.out]
        clear hown hbl hb5 hr hT
        have hp3 := Lib.hid (gvs_none hno.out)
        go_wp2
        go_ret3
        rw [hp3.out.1, hp3.out.2.1, hp3.out.2.2]
        exact ⟨none, 0, rfl, World.ownsRow_nil _ _ _ _, hbl5.alloc hbl5.size _⟩
      | some r =>
        obtain ⟨x, q2⟩ := r
        have hmo := Lib.hid (dv_more hP.out hjK hg)
        have hT := Lib.hid (gvT_yes hg)
        have hq2 := getVal_le hg
        clear hg hP
        go_wp2_with fail
        refine (impl_GetVal _ _ _ _ ((hr.below hbl (Nat.le_refl _)).more hsz) hl hcap q hq64 ty hty).mono ?_
        rintro e w5 ⟨rfl, hb5⟩
        have hbl5 := hbl.trans (hb5.mono hsz)
        have hown5 := own_step hown hb5
        have hsz5 : w.heap.size ≤ w5.heap.size := hbl5.size
        rw [hT.out]
        clear hown hbl hb5 hr hT
        have hownW := hown5.alloc (.cells #[.int .i64 x.ty, .int .i64 x.n, .string x.s] 37)
        have hblW := hbl5.alloc hsz5 (.cells #[.int .i64 x.ty, .int .i64 x.n, .string x.s] 37)
        have hszW := hblW.size
        go_wp2_with (at_builtin; go_loud (refine append_one rfl (.tmp 32) (.tmp 34) 24 rfl w.heap.size 37 i0 _ 3 32 Try.underlying24 hi0 hz0 hz1 hz2 rfl (by omega) (by omega) A' j c' _ rfl hownW [.int .i64 x.ty, .int .i64 x.n, .string x.s] _ rfl (by first | rfl | simp) rfl (by simp [Value.oneCell']) hszW (by omega) ?_); intro A2 c2 w2 hown2 hb2)
        rw [valCells_app] at hown2
        have hbl2 := hblW.trans hb2
        clear hownW hblW hown5 hbl5 hb2 hszW hsz5
        go_wp2
        go_roundw
        case rel => exact ⟨j + 1, L ++ [x], (q2 : Int), A2, c2, by omega, ⟨by omega, by omega⟩, by go_num, rfl, rfl, hown2, hmo, Lib.hid (by simp [hLn.out]), hbl2⟩
        case measure => simp [intOf]; omega
    · have hjk : j = K := by omega
      have hp3 := Lib.hid (gvs_some (dv_end hP.out hjK))
      have hLn' := hLn.out
      subst hLn'
      clear hP hjk
      go_wp2
      go_ret3
      rw [hp3.out.1, hp3.out.2.1, hp3.out.2.2]
      exact ⟨_, _, rfl, hown, hbl⟩

end Go.Proofs.Ytgpimlmolcjeoaa
