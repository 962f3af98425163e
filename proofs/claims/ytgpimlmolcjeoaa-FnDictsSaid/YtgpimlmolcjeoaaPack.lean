/-
  Contracts of PackBits, in the program and in the reference.
-/
import Derived.Test.YtgpimlmolcjeoaaPackp
import Derived.Test.YtgpimlmolcjeoaaAppend
import Derived.Test.YtgpimlmolcjeoaaPut
import Derived.StillTailTactics
namespace Go.Proofs.Ytgpimlmolcjeoaa
open Go.RowKit
set_option linter.unusedVariables false
set_option maxRecDepth 100000

theorem byteCells_set (bs : List UInt8) (j y : Nat) (hy : y < 256) : (byteCells bs).set j (.int .u8 (y : Int)) = byteCells (bs.set j (UInt8.ofNat y)) := by
  have e : ((UInt8.ofNat y).toNat : Int) = (y : Int) := byte_ofNat hy
  simp only [byteCells, byteV, List.map_set, e]
theorem own_setn {w : World} {base g cap n j : Nat} {e : TypeId} {bs : List UInt8} (h : w.ownsRow base e 1 (.slice (some ⟨g, 0, none⟩) n cap) n (byteCells bs)) (v : Nat) (hv : v < 256) :
    (w.setCell ⟨g, j, none⟩ (.int .u8 (v : Int))).ownsRow base e 1 (.slice (some ⟨g, 0, none⟩) n cap) n (byteCells (bs.set j (UInt8.ofNat v))) := by
  have h2 := (h.stored j (.int .u8 (v : Int))).1
  rwa [byteCells_set bs j v hv] at h2
theorem set_self {l : List UInt8} {i : Nat} {x : UInt8} (h : l[i]? = some x) : l.set i x = l := by
  obtain ⟨hl, rfl⟩ := List.getElem?_eq_some_iff.1 h
  exact List.set_getElem_self hl
theorem pack_val {bs cs : List UInt8} {n X t V Q R : Nat} {y : UInt8} (hy : y.toNat < 256) (hV1 : V ≤ 1) (hR : R < 8) (hV : V = X / 2 ^ t % 2) (hQ : Q = n / 8) (hRn : R = n % 8) (hb : bs[n / 8]? = some y) (hs : cs = pkStep bs n (decide (X / 2 ^ t % 2 = 1))) :
    ∃ v : Nat, bits BinOp.or IntKind.u8 (y.toNat : Int) (wrap64 ((V : Int) * 2 ^ R) % 256) = (v : Int) ∧ v < 256 ∧ bs.set Q (UInt8.ofNat v) = cs := by
  rcases (show V = 0 ∨ V = 1 by omega) with h0 | h0
  · refine ⟨y.toNat, ?_, hy, ?_⟩
    · have e : wrap64 ((V : Int) * 2 ^ R) % 256 = ((0 : Nat) : Int) := by rw [h0]; simp [wrap64]
      rw [e, u8_or_nat _ _ hy (by omega)]
      simp
    · rw [hs, decide_eq_false (by omega), hQ, UInt8.ofNat_toNat, set_self hb]
      rfl
  · obtain ⟨P, hP⟩ : ∃ P, P = 2 ^ R := ⟨_, rfl⟩
    have hP1 : P ≤ 128 := by rw [hP]; exact Nat.pow_le_pow_right (n := 2) (by omega) (show R ≤ 7 by omega)
    have hor : y.toNat ||| P < 256 := by rw [hP]; exact or_bd8 hy hR
    have e : wrap64 ((V : Int) * 2 ^ R) % 256 = (P : Int) := by
      have e1 : (V : Int) * 2 ^ R = (P : Int) := by rw [h0, hP]; simp
      rw [e1, wrap_nat _ (by omega)]
      omega
    refine ⟨y.toNat ||| P, ?_, hor, ?_⟩
    · exact (congrArg (bits BinOp.or IntKind.u8 (y.toNat : Int)) e).trans (u8_or_nat y.toNat P hy (Nat.lt_of_le_of_lt hP1 (by decide)))
    · rw [hs, decide_eq_true (by omega), hQ, hP, hRn]
      simp [pkStep, hb]
theorem pow_same {R : Nat} (hR : R < 8) : (2 : Int) ^ R % 256 = wrap64 (((1 : Nat) : Int) * 2 ^ R) % 256 := by
  rcases (show R = 0 ∨ R = 1 ∨ R = 2 ∨ R = 3 ∨ R = 4 ∨ R = 5 ∨ R = 6 ∨ R = 7 by omega) with rfl | rfl | rfl | rfl | rfl | rfl | rfl | rfl <;> simp [wrap64]
set_option maxHeartbeats 1600000 in
theorem impl_PackBits (w : World) (A : Option Addr) (c : Nat) (xs : List Int) (hr : Reads w w.heap.size 1 A xs.length (intCells xs)) (hl : xs.length ≤ 1048576) (hi : ∀ x ∈ xs, I64 x) (m : Int) (hm : I64 m) :
    Calls Try.prog 49 #[.slice A xs.length c, .int .i64 m] w fun e w' => ∃ A' c', e = .returned (.slice A' (packOf xs m).length c') ∧
      w'.ownsRow w.heap.size 5 1 (.slice A' (packOf xs m).length c') (packOf xs m).length (byteCells (packOf xs m)) ∧ Below w.heap.size w w' := by
  cases hw : inB m 0 31
  · have hp := Lib.hid (packOf_no (xs := xs) (packOk_w hw))
    clear hr
    go_enter Try.func49, Try.ntmps49
    go_wp2_with (go_at_call 59; refine (within_any _ _ _ _).mono ?_; rintro e w9 ⟨rfl, rfl⟩; rw [hw])
    go_ret
    rw [hp.out]
    exact ⟨none, 0, rfl, World.ownsRow_nil _ _ _ _, Below.refl _ _⟩
  have HW := Lib.hid hw
  obtain ⟨M, rfl⟩ := Int.eq_ofNat_of_zero_le (show 0 ≤ m by have := inB_iff.1 hw; omega)
  have hM : M ≤ 31 := by have := inB_iff.1 hw; omega
  go_enter Try.func49, Try.ntmps49
  go_wp2_with (go_at_call 59; refine (within_any _ _ _ _).mono ?_; rintro e w9 ⟨rfl, rfl⟩; rw [hw])
  clear hw hm
  go_loopw [17] (fun i wr => ∃ k : Nat, k ≤ xs.length ∧ i = .int .i64 k ∧ AllTo (packFit (M : Int)) xs k ∧ Below w.heap.size w wr) (fun i _ => xs.length - (intOf i).toNat)
  case atStart => exact ⟨0, Nat.zero_le _, rfl, AllTo.zero _ _, Below.refl _ _⟩
  case round =>
    obtain ⟨k, hk, rfl, hall, hbl⟩ := hrel
    by_cases hlt : k < xs.length
    · obtain ⟨p, off, x, rfl, hb, hx, hc⟩ := hr.int hlt
      have hd : wr.cell? ⟨p, off + k, none⟩ = some (.int .i64 x) := (hbl.cell (p := ⟨p, off + k, none⟩) hb).trans hc
      have hix := hi x (List.mem_of_getElem? hx.out)
      have hgo := impl_WidthOf wr x hix
      have hbd := widthOf_bd x
      obtain ⟨q, hq⟩ := Int.eq_ofNat_of_zero_le hbd.1
      rw [hq] at hgo
      cases hfit : packFit (M : Int) x
      · have hno := Lib.hid (packOf_no (packOk_bad hx.out hfit))
        clear hall hr hc hix hbd
        cases hin : inB x 0 2147483647
        · clear hfit hq hgo
          go_wp2_with (go_at_call 59; refine (within_any _ _ _ _).mono ?_; rintro e w9 ⟨rfl, rfl⟩; rw [hin])
          go_ret
          rw [hno.out]
          exact ⟨none, 0, rfl, World.ownsRow_nil _ _ _ _, hbl⟩
        · have hqM : M < q := by simp [packFit, hin] at hfit; omega
          clear hfit hq
          go_wp2_with (first | (go_at_call 59; refine (within_any _ _ _ _).mono ?_; rintro e w9 ⟨rfl, rfl⟩; rw [hin]) | (go_at_call 50; refine hgo.mono ?_; rintro e w9 ⟨rfl, hb9⟩))
          have hbl2 := hbl.trans (hb9.mono hbl.size)
          go_ret
          rw [hno.out]
          exact ⟨none, 0, rfl, World.ownsRow_nil _ _ _ _, hbl2⟩
      · have hall2 := hall.succ hx.out hfit
        have hin : inB x 0 2147483647 = true := by unfold packFit at hfit; rw [Bool.and_eq_true] at hfit; exact hfit.1
        have hqM : q ≤ M := by simp [packFit, hin] at hfit; omega
        clear hall hr hc hix hbd hfit hq
        go_wp2_with (first | (go_at_call 59; refine (within_any _ _ _ _).mono ?_; rintro e w9 ⟨rfl, rfl⟩; rw [hin]) | (go_at_call 50; refine hgo.mono ?_; rintro e w9 ⟨rfl, hb9⟩))
        have hbl2 := hbl.trans (hb9.mono hbl.size)
        go_roundw
        case rel => exact ⟨k + 1, by omega, by go_num, hall2, hbl2⟩
        case measure => simp [intOf]; omega
    · have hkn : k = xs.length := by omega
      subst hkn
      have hyes := Lib.hid (packOf_yes (packOk_all hall HW.out))
      have hfits : ∀ j x, xs[j]? = some x → packFit (M : Int) x = true := fun j x hx => hall j x (List.getElem?_eq_some_iff.1 hx).1 hx
      have hmul := mul_bd31 hl hM
      obtain ⟨T, hT⟩ : ∃ T, T = (xs.length * M + 7) / 8 := ⟨_, rfl⟩
      have hTi : ((xs.length : Int) * (M : Int) + 7) / 8 = (T : Int) := by rw [← Int.natCast_mul]; omega
      have hTb : T ≤ 4063233 := by omega
      have hsz := hbl.size
      have HT := Lib.hid hTi
      have HT2 := Lib.hid hT
      have HM := Lib.hid hmul
      obtain ⟨i0, hi0, hz0, hz1, hz2⟩ := info_parts info_Byte
      have hmI : 0 ≤ (xs.length : Int) * (M : Int) ∧ (xs.length : Int) * (M : Int) ≤ 32505856 := by rw [← Int.natCast_mul]; omega
      clear hall hi hTi hT hmul
      go_wp2_with (at_make; go_loud (refine wpList_make_full _ rfl _ _ 22 rfl w.heap.size 5 i0 _ 1 Try.underlying22 hi0 hz0 hz1 _ _ _ _ T rfl rfl HT.out HT.out (by rw [hz2]; omega) (by unfold maxLen; omega) hsz ?_); intro w1 hown hg)
      rw [show (madeCells (Value.int .u8 0).cells (T * 1)).toList = byteCells (packI (pkBit xs M) T 0) from by rw [Nat.mul_one, packI_start, show byteCells (List.replicate T 0) = List.replicate T (Value.int .u8 0) by simp [byteCells, byteV]]; exact toList_madeCells_one _ _] at hown
      obtain ⟨G, hG⟩ : ∃ G, G = wr.heap.size := ⟨_, rfl⟩
      have hbl1 : Below w.heap.size w w1 := hbl.grown hg hsz (fun k hk => by cases hk)
      rw [← hG] at hown ⊢
      have hGs : w.heap.size ≤ G := by omega
      clear hg hG hbl hmI
      go_loopw [40] (fun i wr => ∃ (j : Nat), j ≤ xs.length ∧ i = .int .i64 j ∧ wr.ownsRow w.heap.size 5 1 (.slice (some ⟨G, 0, none⟩) T T) T (byteCells (packI (pkBit xs M) T (j * M))) ∧ Below w.heap.size w wr) (fun i _ => xs.length - (intOf i).toNat)
      case atStart => exact ⟨0, Nat.zero_le _, rfl, by rw [Nat.zero_mul]; exact hown, hbl1⟩
      case round =>
        clear hown hbl1
        obtain ⟨j, hj, rfl, hown, hbl⟩ := hrel
        by_cases hjl : j < xs.length
        · obtain ⟨p, off, x, rfl, hb, hx, hc⟩ := hr.int hjl
          have hd : wr.cell? ⟨p, off + j, none⟩ = some (.int .i64 x) := (hbl.cell (p := ⟨p, off + j, none⟩) hb).trans hc
          have hxb := packFit_bd (hfits j x hx.out)
          obtain ⟨X, rfl⟩ := Int.eq_ofNat_of_zero_le hxb.1
          have hmj := mul_bd31 (show j ≤ 1048576 by omega) hM
          have hj1 : j * M + M ≤ xs.length * M := by rw [← Nat.succ_mul]; exact Nat.mul_le_mul_right M hjl
          have hHj : (j * M + M) ≤ 8 * T := by have := HT2.out; omega
          have hmI : 0 ≤ (j : Int) * (M : Int) ∧ (j : Int) * (M : Int) ≤ 32505856 := by rw [← Int.natCast_mul]; omega
          clear hr hc hj1
          go_wp2
          go_loopw [10] (fun q wr' => ∃ (t : Nat), t ≤ M ∧ q = .int .i64 t ∧ wr'.ownsRow w.heap.size 5 1 (.slice (some ⟨G, 0, none⟩) T T) T (byteCells (packI (pkBit xs M) T (j * M + t))) ∧ Below w.heap.size w wr') (fun q _ => M - (intOf q).toNat)
          case atStart => exact ⟨0, Nat.zero_le _, rfl, hown, hbl⟩
          case round =>
            clear hown hbl hd
            obtain ⟨t, ht, rfl, hown, hbl⟩ := hrel
            by_cases htM : t < M
            · obtain ⟨n, hn⟩ : ∃ n, n = j * M + t := ⟨_, rfl⟩
              have hni : (j : Int) * (M : Int) + (t : Int) = (n : Int) := by rw [← Int.natCast_mul]; omega
              have hbit := pkBit_at hx.out htM
              rw [Int.toNat_natCast, ← hn] at hbit
              have hn8 : n / 8 < T := by omega
              have hstep := packI_succ (f := pkBit xs M) (T := T) (m := n) (by omega)
              rw [hbit] at hstep
              rw [← hn] at hown
              have hlen := packI_len (pkBit xs M) T n (by omega)
              obtain ⟨y, hy⟩ : ∃ y, (packI (pkBit xs M) T n)[n / 8]? = some y := ⟨_, List.getElem?_eq_getElem (by omega)⟩
              have hd : wr.cell? ⟨G, n / 8, none⟩ = some (.int .u8 (y.toNat : Int)) := (hown.cellAt (n / 8) (by omega)).trans (by simp [byteCells, byteV, hy])
              have hf := hown.frozenAt (n / 8)
              have hst := fun v hv => own_setn (j := n / 8) hown v hv
              have HS := Lib.hid hstep
              have HB := Lib.hid hbit
              have HN := Lib.hid hn
              have HY := Lib.hid hy
              clear hstep hbit hn hy hlen
              have HI := Lib.hid hni
              clear hni
              go_wp2
              rw [HI.out]
              have hnb : n ≤ 32505887 := by omega
              obtain ⟨Q, hQ⟩ : ∃ Q, Q = n / 8 := ⟨_, rfl⟩
              obtain ⟨R, hR⟩ : ∃ R, R = n % 8 := ⟨_, rfl⟩
              have hw8 : IntKind.i64.wrap ((n : Int) / 8) = (Q : Int) := by rw [IntKind.wrap_i64]; omega
              have hrm : (n : Int).tmod 8 = (R : Int) := by rw [Int.tmod_eq_emod_of_nonneg (by omega)]; omega
              obtain ⟨V, hV⟩ : ∃ V, V = X / 2 ^ t % 2 := ⟨_, rfl⟩
              have hv : bits BinOp.and IntKind.i64 ((X : Int) / 2 ^ t) 1 = (V : Int) := by rw [div_pow, i64_and_one _ (Nat.lt_of_le_of_lt (Nat.div_le_self _ _) (by omega)), hV]
              have hV1 : V ≤ 1 := by omega
              have HV := Lib.hid hV
              clear hV
              rw [← hQ] at hd hf hn8
              have hR8 : R < 8 := by omega
              have HQ := Lib.hid hQ
              have HR := Lib.hid hR
              clear hQ hR
              clear HI hmI
              go_still_tail 14, (by kernel_rfl)
              change wpList _ _ _ _ _ wr.drew
              have hbl2 := hbl.drew
              have hd2 : wr.drew.cell? ⟨G, Q, none⟩ = some (.int .u8 (y.toNat : Int)) := hd
              have hf2 : wr.drew.frozen? ⟨G, Q, none⟩ = false := hf
              have hown2 : wr.drew.ownsRow w.heap.size 5 1 (.slice (some ⟨G, 0, none⟩) T T) T (byteCells (packI (pkBit xs M) T n)) := hown
              clear hbl hd hf hown
              generalize wr.drew = w2 at hbl2 hd2 hf2 hown2 ⊢
              go_wp2_with fail
              have hyb := byte_lt y
              obtain ⟨v, hvv, hv256, hcont⟩ := pack_val (R := R) hyb hV1 hR8 HV.out HQ.out HR.out HY.out HS.out
              rw [hvv]
              have hown3 := own_setn (j := Q) hown2 v hv256
              rw [hcont] at hown3
              have hb3 : Below w.heap.size w (w2.setCell ⟨G, Q, none⟩ (.int .u8 (v : Int))) := hbl2.setCell hGs _
              refine ⟨⟨t + 1, by omega, by go_num, ?_, hb3⟩, by simp [intOf]; omega⟩
              rw [show j * M + (t + 1) = n + 1 by have := HN.out; omega]
              exact hown3
            · have htm : t = M := by omega
              have hown3 : wr.ownsRow w.heap.size 5 1 (.slice (some ⟨G, 0, none⟩) T T) T (byteCells (packI (pkBit xs M) T ((j + 1) * M))) := by
                rw [Nat.succ_mul, ← htm]; rw [← htm] at hown; exact hown
              clear hown htm
              go_wp2
              go_roundw
              case rel => exact ⟨j + 1, by omega, by go_num, hown3, hbl⟩
              case measure => simp [intOf]; omega
        · have hjn : j = xs.length := by omega
          subst hjn
          have hfin : packI (pkBit xs M) T (xs.length * M) = packOf xs (M : Int) := by rw [hyes.out, HT2.out, packI_end]
          have hlf : (packOf xs (M : Int)).length = T := by rw [hyes.out, packS_len]; exact HT2.out.symm
          rw [hfin] at hown
          have HF := Lib.hid hlf
          clear hfin hlf
          go_wp2
          go_ret
          rw [HF.out]
          exact ⟨_, _, rfl, hown, hbl⟩
set_option maxHeartbeats 800000 in
theorem spec_l2Fits (w : World) (A : Option Addr) (c : Nat) (xs : List Int) (hr : Reads w w.heap.size 1 A xs.length (intCells xs)) (hl : xs.length ≤ 1048576) (hi : ∀ x ∈ xs, I64 x) (m : Int) :
    Calls Try.prog 89 #[.slice A xs.length c, .int .i64 m] w fun e w' => e = .returned (.bool (packOk xs m)) ∧ Below w.heap.size w w' := by
  go_enter Try.func89, Try.ntmps89
  go_wp2
  go_loopw [5] (fun i wr => ∃ k : Nat, k ≤ xs.length ∧ i = .int .i64 k ∧ AllTo (packFit m) xs k ∧ Below w.heap.size w wr) (fun i _ => xs.length - (intOf i).toNat)
  case atStart => exact ⟨0, Nat.zero_le _, rfl, AllTo.zero _ _, Below.refl _ _⟩
  case round =>
    obtain ⟨k, hk, rfl, hall, hbl⟩ := hrel
    by_cases hlt : k < xs.length
    · obtain ⟨p, off, x, rfl, hb, hx, hc⟩ := hr.int hlt
      have hd : wr.cell? ⟨p, off + k, none⟩ = some (.int .i64 x) := (hbl.cell (p := ⟨p, off + k, none⟩) hb).trans hc
      have hix := hi x (List.mem_of_getElem? hx.out)
      have hgo := spec_WidthOf wr x hix
      have hbd := widthOf_bd x
      obtain ⟨q, hq⟩ := Int.eq_ofNat_of_zero_le hbd.1
      rw [hq] at hgo
      cases hfit : packFit m x
      · have hno := Lib.hid (packOk_bad hx.out hfit)
        clear hall hr hc hix hbd
        cases hin : inB x 0 2147483647
        · clear hfit hq hgo
          go_wp2_with (go_at_call 71; refine (l1In_any _ _ _ _).mono ?_; rintro e w9 ⟨rfl, rfl⟩; rw [hin])
          go_ret
          rw [hno.out]
          exact ⟨rfl, hbl⟩
        · have hqM : m < (q : Int) := by simp [packFit, hin] at hfit; omega
          clear hfit hq
          go_wp2_with (first | (go_at_call 71; refine (l1In_any _ _ _ _).mono ?_; rintro e w9 ⟨rfl, rfl⟩; rw [hin]) | (go_at_call 57; refine hgo.mono ?_; rintro e w9 ⟨rfl, hb9⟩))
          have hbl2 := hbl.trans (hb9.mono hbl.size)
          go_ret
          rw [hno.out]
          exact ⟨rfl, hbl2⟩
      · have hall2 := hall.succ hx.out hfit
        have hin : inB x 0 2147483647 = true := by unfold packFit at hfit; rw [Bool.and_eq_true] at hfit; exact hfit.1
        have hqM : (q : Int) ≤ m := by simp [packFit, hin] at hfit; omega
        clear hall hr hc hix hbd hfit hq
        go_wp2_with (first | (go_at_call 71; refine (l1In_any _ _ _ _).mono ?_; rintro e w9 ⟨rfl, rfl⟩; rw [hin]) | (go_at_call 57; refine hgo.mono ?_; rintro e w9 ⟨rfl, hb9⟩))
        have hbl2 := hbl.trans (hb9.mono hbl.size)
        go_roundw
        case rel => exact ⟨k + 1, by omega, by go_num, hall2, hbl2⟩
        case measure => simp [intOf]; omega
    · have hkn : k = xs.length := by omega
      subst hkn
      have hfin : packOk xs m = inB m 0 31 := by
        unfold packOk
        rw [hall.all]
        rfl
      have HF := Lib.hid hfin
      clear hfin hall
      go_wp2_with fail
      refine (l1In_any _ _ _ _).mono ?_
      rintro e w9 ⟨rfl, rfl⟩
      go_wp2
      go_ret
      rw [HF.out]
      exact ⟨rfl, hbl⟩
set_option maxHeartbeats 1600000 in
theorem spec_PackBits (w : World) (A : Option Addr) (c : Nat) (xs : List Int) (hr : Reads w w.heap.size 1 A xs.length (intCells xs)) (hl : xs.length ≤ 1048576) (hi : ∀ x ∈ xs, I64 x) (m : Int) (hm : I64 m) :
    Calls Try.prog 56 #[.slice A xs.length c, .int .i64 m] w fun e w' => ∃ A' c', e = .returned (.slice A' (packOf xs m).length c') ∧
      w'.ownsRow w.heap.size 5 1 (.slice A' (packOf xs m).length c') (packOf xs m).length (byteCells (packOf xs m)) ∧ Below w.heap.size w w' := by
  obtain ⟨i0, hi0, hz0, hz1, hz2⟩ := info_parts info_Byte
  have hA0 : Below w.heap.size w (w.alloc (.cells #[] 5)) := (Below.refl _ _).alloc (Nat.le_refl _) _
  go_enter Try.func56, Try.ntmps56
  go_wp2_with fail
  refine (spec_l2Fits _ _ _ xs ((hr.below hA0 (Nat.le_refl _)).more hA0.size) hl hi m).mono ?_
  rintro e w1 ⟨rfl, hb1⟩
  have hbl1 := hA0.trans (hb1.mono hA0.size)
  have hown1 := own_step (own_empty (w := w) (base := w.heap.size) (e := 5) (size := 1) (Nat.le_refl _)) hb1
  clear hA0 hb1
  cases hok : packOk xs m
  · have hp := Lib.hid (packOf_no hok)
    clear hok
    go_wp2
    go_ret
    rw [hp.out]
    exact ⟨_, _, rfl, hown1, hbl1⟩
  have hm31 : inB m 0 31 = true := by unfold packOk at hok; rw [Bool.and_eq_true] at hok; exact hok.2
  obtain ⟨M, rfl⟩ := Int.eq_ofNat_of_zero_le (show 0 ≤ m by have := inB_iff.1 hm31; omega)
  have hM : M ≤ 31 := by have := inB_iff.1 hm31; omega
  have hyes := Lib.hid (packOf_yes hok)
  have hfits : ∀ (j : Nat) (x : Int), xs[j]? = some x → packFit (M : Int) x = true := by
    intro j x hx
    unfold packOk at hok
    rw [Bool.and_eq_true, List.all_eq_true] at hok
    exact hok.1 x (List.mem_of_getElem? hx)
  clear hok hm31 hm hi
  go_wp2
  go_loopw [5, 6, 7] (fun o n i wr => ∃ (j : Nat) (A' : Option Addr) (c' : Nat), j ≤ xs.length ∧ i = .int .i64 j ∧ n = .int .i64 ((j * M : Nat) : Int) ∧ o = .slice A' (packS (pkBit xs M) (j * M)).length c' ∧ wr.ownsRow w.heap.size 5 1 (.slice A' (packS (pkBit xs M) (j * M)).length c') (packS (pkBit xs M) (j * M)).length (byteCells (packS (pkBit xs M) (j * M))) ∧ Below w.heap.size w wr) (fun _ _ i _ => xs.length - (intOf i).toNat)
  case atStart => exact ⟨0, _, _, Nat.zero_le _, rfl, by simp, by rw [Nat.zero_mul]; rfl, by rw [Nat.zero_mul]; exact hown1, hbl1⟩
  case round =>
    clear hown1 hbl1
    obtain ⟨j, A1, c1, hj, rfl, rfl, rfl, hown, hbl⟩ := hrel
    have hsz := hbl.size
    by_cases hjl : j < xs.length
    · obtain ⟨p, off, x, rfl, hb, hx, hc⟩ := hr.int hjl
      have hxb := packFit_bd (hfits j x hx.out)
      obtain ⟨X, rfl⟩ := Int.eq_ofNat_of_zero_le hxb.1
      have hmj := mul_bd31 (show j ≤ 1048576 by omega) hM
      go_wp2
      go_loopw [5, 6, 8] (fun o n q wr' => ∃ (t : Nat) (A' : Option Addr) (c' : Nat), t ≤ M ∧ q = .int .i64 t ∧ n = .int .i64 ((j * M + t : Nat) : Int) ∧ o = .slice A' (packS (pkBit xs M) (j * M + t)).length c' ∧ wr'.ownsRow w.heap.size 5 1 (.slice A' (packS (pkBit xs M) (j * M + t)).length c') (packS (pkBit xs M) (j * M + t)).length (byteCells (packS (pkBit xs M) (j * M + t))) ∧ Below w.heap.size w wr') (fun _ _ q _ => M - (intOf q).toNat)
      case atStart => exact ⟨0, A1, c1, Nat.zero_le _, rfl, rfl, rfl, hown, hbl⟩
      case round =>
        clear hown hbl
        obtain ⟨t, A1, c1, ht, rfl, rfl, rfl, hown, hbl⟩ := hrel
        have hsz2 := hbl.size
        by_cases htM : t < M
        · obtain ⟨n, hn⟩ : ∃ n, n = j * M + t := ⟨_, rfl⟩
          rw [← hn] at hown ⊢
          have hbit := pkBit_at hx.out htM
          rw [Int.toNat_natCast, ← hn] at hbit
          have hnb : n ≤ 32505887 := by omega
          have hSn : packS (pkBit xs M) (n + 1) = pkStep (if n % 8 = 0 then packS (pkBit xs M) n ++ [0] else packS (pkBit xs M) n) n (decide (X / 2 ^ t % 2 = 1)) := by rw [packS, hbit]
          have hSl := packS_len (pkBit xs M) n
          obtain ⟨Q, hQ⟩ : ∃ Q, Q = n / 8 := ⟨_, rfl⟩
          obtain ⟨R, hR⟩ : ∃ R, R = n % 8 := ⟨_, rfl⟩
          have hR8 : R < 8 := by omega
          have hrm : (n : Int).tmod 8 = (R : Int) := by rw [Int.tmod_eq_emod_of_nonneg (by omega)]; omega
          have hw8 : IntKind.i64.wrap ((n : Int) / 8) = (Q : Int) := by rw [IntKind.wrap_i64]; omega
          obtain ⟨V, hV⟩ : ∃ V, V = X / 2 ^ t % 2 := ⟨_, rfl⟩
          have hv : bits BinOp.and IntKind.i64 ((X : Int) / 2 ^ t) 1 = (V : Int) := by rw [div_pow, i64_and_one _ (Nat.lt_of_le_of_lt (Nat.div_le_self _ _) (by omega)), hV]
          have hV1 : V ≤ 1 := by omega
          have HV := Lib.hid hV
          have HN := Lib.hid hn
          generalize packS (pkBit xs M) n = L at hown hSn hSl ⊢
          have hQb : Q ≤ 4063235 := by omega
          have hL0 : R = 0 → L.length = Q := by omega
          have hL1 : ¬ R = 0 → L.length = Q + 1 := by omega
          have HQ := Lib.hid hQ
          have HR := Lib.hid hR
          clear hV hn hbit hSl hQ hR
          rcases (show V = 0 ∨ V = 1 by omega) with hV0 | hV0
          · have HC : ∃ C, Hid (packS (pkBit xs M) (j * M + (t + 1)) = C) ∧ Hid (C.length = Q + 1) ∧ (R = 0 → C = L ++ [0]) ∧ (¬ R = 0 → C = L) := by
              have e : packS (pkBit xs M) (j * M + (t + 1)) = (if n % 8 = 0 then L ++ [0] else L) := by
                rw [show j * M + (t + 1) = n + 1 by have := HN.out; omega, hSn, decide_eq_false (by have := HV.out; omega)]
                rfl
              by_cases hR0 : R = 0
              · rw [if_pos (by have := HR.out; omega)] at e
                exact ⟨_, Lib.hid e, Lib.hid (by simp [hL0 hR0]), fun _ => rfl, fun h => absurd hR0 h⟩
              · rw [if_neg (by have := HR.out; omega)] at e
                exact ⟨_, Lib.hid e, Lib.hid (hL1 hR0), fun h => absurd h hR0, fun _ => rfl⟩
            obtain ⟨C, HC, HE0, hC0, hC1⟩ := HC
            have HE : Hid ((packS (pkBit xs M) (j * M + (t + 1))).length = Q + 1) := by
              show _ = _
              rw [HC.out]; exact HE0.out
            subst hV0
            clear hSn
            by_cases hR0 : R = 0
            · have hl0 := hL0 hR0
              have HC0 := Lib.hid (hC0 hR0)
              rw [hl0] at hown ⊢
              subst hR0
              clear hL0 hL1 hl0 hC0 hC1
              go_wp2_with (at_builtin; refine append_one rfl (.tmp 29) (.tmp 30) 22 rfl w.heap.size 5 i0 _ 1 1 Try.underlying22 hi0 hz0 hz1 hz2 rfl (by omega) (by omega) A1 Q c1 _ rfl hown [.int .u8 ((0 : Nat) : Int)] _ rfl (by first | rfl | simp) rfl (by simp [Value.oneCell']) hsz2 (by omega) ?_; intro A2 c2 w2 hown2 hb2; have hbl2 := hbl.trans hb2; have hd : w2.cell? ⟨p, off + j, none⟩ = some (.int .i64 (X : Int)) := (hbl2.cell (p := ⟨p, off + j, none⟩) hb).trans hc)
              have hown3 : w2.ownsRow w.heap.size 5 1 (.slice A2 (Q + 1) c2) (Q + 1) (byteCells C) := by rw [HC0.out]; simpa [byteCells, byteV] using hown2
              refine ⟨⟨t + 1, A2, c2, by omega, by go_num, by rw [show j * M + (t + 1) = n + 1 by have := HN.out; omega]; go_num, ?_, ?_, hbl2⟩, by simp [intOf]; omega⟩
              · rw [HE.out]
              · rw [HE.out, HC.out]; exact hown3
            · have hl0 := hL1 hR0
              have HC0 := Lib.hid (hC1 hR0)
              have hRb : ((R : Int) == 0) = false := by simp; omega
              have hd : wr.cell? ⟨p, off + j, none⟩ = some (.int .i64 (X : Int)) := (hbl.cell (p := ⟨p, off + j, none⟩) hb).trans hc
              rw [hl0] at hown ⊢
              clear hL0 hL1 hl0 hC0 hC1 hR0
              go_wp2
              have hown3 : wr.ownsRow w.heap.size 5 1 (.slice A1 (Q + 1) c1) (Q + 1) (byteCells C) := by rw [HC0.out]; exact hown
              go_roundw
              case rel => exact ⟨t + 1, A1, c1, by omega, by go_num, by rw [show j * M + (t + 1) = n + 1 by have := HN.out; omega]; go_num, by rw [HE.out], by rw [HE.out, HC.out]; exact hown3, hbl⟩
              case measure => simp [intOf]; omega
          · have HC : ∃ L1, Hid (packS (pkBit xs M) (j * M + (t + 1)) = pkStep L1 n (decide (X / 2 ^ t % 2 = 1))) ∧ Hid (L1.length = Q + 1) ∧ (R = 0 → L1 = L ++ [0]) ∧ (¬ R = 0 → L1 = L) := by
              have e : packS (pkBit xs M) (j * M + (t + 1)) = pkStep (if n % 8 = 0 then L ++ [0] else L) n (decide (X / 2 ^ t % 2 = 1)) := by
                rw [show j * M + (t + 1) = n + 1 by have := HN.out; omega, hSn]
              by_cases hR0 : R = 0
              · rw [if_pos (by have := HR.out; omega)] at e
                exact ⟨_, Lib.hid e, Lib.hid (by simp [hL0 hR0]), fun _ => rfl, fun h => absurd hR0 h⟩
              · rw [if_neg (by have := HR.out; omega)] at e
                exact ⟨_, Lib.hid e, Lib.hid (hL1 hR0), fun h => absurd h hR0, fun _ => rfl⟩
            obtain ⟨L1, HS, HL1, hC0, hC1⟩ := HC
            have HE : Hid ((packS (pkBit xs M) (j * M + (t + 1))).length = Q + 1) := by
              show _ = _
              rw [HS.out, pkStep_len]; exact HL1.out
            subst hV0
            clear hSn
            by_cases hR0 : R = 0
            · have hl0 := hL0 hR0
              have HC0 := Lib.hid (hC0 hR0)
              rw [hl0] at hown ⊢
              subst hR0
              clear hL0 hL1 hl0 hC0 hC1
              go_wp2_with (at_builtin; refine append_one rfl (.tmp 29) (.tmp 30) 22 rfl w.heap.size 5 i0 _ 1 1 Try.underlying22 hi0 hz0 hz1 hz2 rfl (by omega) (by omega) A1 Q c1 _ rfl hown [.int .u8 ((0 : Nat) : Int)] _ rfl (by first | rfl | simp) rfl (by simp [Value.oneCell']) hsz2 (by omega) ?_; intro A2 c2 w2 hown2 hb2; have hbl2 := hbl.trans hb2; have hd : w2.cell? ⟨p, off + j, none⟩ = some (.int .i64 (X : Int)) := (hbl2.cell (p := ⟨p, off + j, none⟩) hb).trans hc)
              have hown3 : w2.ownsRow w.heap.size 5 1 (.slice A2 (Q + 1) c2) (Q + 1) (byteCells L1) := by rw [HC0.out]; simpa [byteCells, byteV] using hown2
              clear hown2
              obtain ⟨g, cap, hvv, hg, hgl⟩ := hown3.form (by omega)
              obtain ⟨rfl, rfl⟩ : A2 = some ⟨g, 0, none⟩ ∧ c2 = cap := by injection hvv with h1 h2 h3; exact ⟨h1, h3⟩
              clear hvv
              obtain ⟨y, hy⟩ : ∃ y, L1[n / 8]? = some y := ⟨_, List.getElem?_eq_getElem (by have := HL1.out; have := HQ.out; omega)⟩
              have hcd : w2.drew.cell? ⟨g, Q, none⟩ = some (.int .u8 (y.toNat : Int)) := (hown3.cellAt Q (by omega)).trans (by rw [HQ.out]; simp [byteCells, byteV, hy])
              have hcf : w2.drew.frozen? ⟨g, Q, none⟩ = false := hown3.frozenAt Q
              have hown4 : w2.drew.ownsRow w.heap.size 5 1 (.slice (some ⟨g, 0, none⟩) (Q + 1) c2) (Q + 1) (byteCells L1) := hown3
              have hbl4 := hbl2.drew
              have HY := Lib.hid hy
              have hnw : IntKind.i64.wrap (n : Int) = (n : Int) := by rw [IntKind.wrap_i64]; omega
              obtain ⟨E, hE⟩ : ∃ E, E = Q + 1 := ⟨_, rfl⟩
              rw [← hE] at hown4 ⊢
              have hQE : (Q : Int) < (E : Int) := by omega
              have HEE := Lib.hid hE
              clear hy hd hown3 hbl2 hE
              go_still_tail 12, (by kernel_rfl)
              change wpList _ _ _ _ _ w2.drew
              generalize w2.drew = w3 at hcd hcf hown4 hbl4 ⊢
              go_wp2_with fail
              have hyb := byte_lt y
              obtain ⟨v, hvv, hv256, hcont⟩ := pack_val (V := 1) (R := 0) hyb (by omega) hR8 HV.out HQ.out HR.out HY.out HS.out
              rw [← pow_same hR8] at hvv
              rw [show bits BinOp.or IntKind.u8 (y.toNat : Int) 1 = (v : Int) from hvv]
              have hown5 := own_setn (j := Q) hown4 v hv256
              rw [hcont] at hown5
              have hb5 : Below w.heap.size w (w3.setCell ⟨g, Q, none⟩ (.int .u8 (v : Int))) := hbl4.setCell hg _
              refine ⟨⟨t + 1, some ⟨g, 0, none⟩, c2, by omega, by go_num, by rw [show j * M + (t + 1) = n + 1 by have := HN.out; omega]; go_num, by rw [HE.out, HEE.out], by rw [HE.out, ← HEE.out]; exact hown5, hb5⟩, by simp [intOf]; omega⟩
            · have hl0 := hL1 hR0
              have HC0 := Lib.hid (hC1 hR0)
              have hRb : ((R : Int) == 0) = false := by simp; omega
              have hd : wr.cell? ⟨p, off + j, none⟩ = some (.int .i64 (X : Int)) := (hbl.cell (p := ⟨p, off + j, none⟩) hb).trans hc
              rw [hl0] at hown ⊢
              clear hL0 hL1 hl0 hC0 hC1 hR0
              go_wp2
              have hown3 : wr.ownsRow w.heap.size 5 1 (.slice A1 (Q + 1) c1) (Q + 1) (byteCells L1) := by rw [HC0.out]; exact hown
              have hbl2 := hbl
              clear hown hbl
              obtain ⟨g, cap, hvv, hg, hgl⟩ := hown3.form (by omega)
              obtain ⟨rfl, rfl⟩ : A1 = some ⟨g, 0, none⟩ ∧ c1 = cap := by injection hvv with h1 h2 h3; exact ⟨h1, h3⟩
              clear hvv
              obtain ⟨y, hy⟩ : ∃ y, L1[n / 8]? = some y := ⟨_, List.getElem?_eq_getElem (by have := HL1.out; have := HQ.out; omega)⟩
              have hcd : wr.drew.cell? ⟨g, Q, none⟩ = some (.int .u8 (y.toNat : Int)) := (hown3.cellAt Q (by omega)).trans (by rw [HQ.out]; simp [byteCells, byteV, hy])
              have hcf : wr.drew.frozen? ⟨g, Q, none⟩ = false := hown3.frozenAt Q
              have hown4 : wr.drew.ownsRow w.heap.size 5 1 (.slice (some ⟨g, 0, none⟩) (Q + 1) c1) (Q + 1) (byteCells L1) := hown3
              have hbl4 := hbl2.drew
              have HY := Lib.hid hy
              have hnw : IntKind.i64.wrap (n : Int) = (n : Int) := by rw [IntKind.wrap_i64]; omega
              obtain ⟨E, hE⟩ : ∃ E, E = Q + 1 := ⟨_, rfl⟩
              rw [← hE] at hown4 ⊢
              have hQE : (Q : Int) < (E : Int) := by omega
              have HEE := Lib.hid hE
              clear hy hd hown3 hbl2 hE
              go_still_tail 12, (by kernel_rfl)
              change wpList _ _ _ _ _ wr.drew
              generalize wr.drew = w3 at hcd hcf hown4 hbl4 ⊢
              go_wp2_with fail
              have hyb := byte_lt y
              obtain ⟨v, hvv, hv256, hcont⟩ := pack_val (V := 1) (R := R) hyb (by omega) hR8 HV.out HQ.out HR.out HY.out HS.out
              rw [← pow_same hR8] at hvv
              rw [show bits BinOp.or IntKind.u8 (y.toNat : Int) (2 ^ R % 256) = (v : Int) from hvv]
              have hown5 := own_setn (j := Q) hown4 v hv256
              rw [hcont] at hown5
              have hb5 : Below w.heap.size w (w3.setCell ⟨g, Q, none⟩ (.int .u8 (v : Int))) := hbl4.setCell hg _
              refine ⟨⟨t + 1, some ⟨g, 0, none⟩, c1, by omega, by go_num, by rw [show j * M + (t + 1) = n + 1 by have := HN.out; omega]; go_num, by rw [HE.out, HEE.out], by rw [HE.out, ← HEE.out]; exact hown5, hb5⟩, by simp [intOf]; omega⟩
        · have htm : t = M := by omega
          subst htm
          go_wp2
          go_roundw
          case rel => exact ⟨j + 1, A1, c1, by omega, by go_num, by rw [Nat.succ_mul], by rw [Nat.succ_mul], by rw [Nat.succ_mul]; exact hown, hbl⟩
          case measure => simp [intOf]; omega
    · have hjn : j = xs.length := by omega
      subst hjn
      go_wp2
      go_ret
      rw [hyes.out]
      exact ⟨_, _, rfl, hown, hbl⟩

end Go.Proofs.Ytgpimlmolcjeoaa
