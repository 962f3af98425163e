/-
  Contracts of GetNums, in the program and in the reference.
-/
import Derived.Test.YtbmgfcoiailolaaPut
import Derived.Test.YtbmgfcoiailolaaGet
namespace Go.Proofs.Ytbmgfcoiailolaa
open Go.RowKit
set_option linter.unusedVariables false
set_option maxRecDepth 100000

theorem getGo_pos {bs : List UInt8} {p : Nat} : ∀ {f i x : Nat} {n : Int} {q : Nat}, getGo bs p f i x = some (n, q) → q ≤ bs.length
  | 0, i, x, n, q, h => by simp [getGo] at h
  | f + 1, i, x, n, q, h => by
    unfold getGo at h
    split at h
    · cases h
    · rename_i c hc
      have hlt : p + i < bs.length := (List.getElem?_eq_some_iff.1 hc).1
      split at h
      · exact getGo_pos h
      · split at h
        · cases h
        · injection h with h
          injection h with h1 h2
          omega
theorem getNum_pos {bs : List UInt8} {a n : Int} {q : Nat} (h : getNum bs a = some (n, q)) : q ≤ bs.length := by
  unfold getNum at h
  split at h
  · cases h
  · exact getGo_pos h
theorem gn_parts {bs : List UInt8} {a n : Int} {q : Nat} (h : getNum bs a = some (n, q)) : gnN bs a = n ∧ gnP bs a = (q : Int) ∧ gnOk bs a = true := by simp [gnN, gnP, gnOk, h]
theorem gn_nothing {bs : List UInt8} {a : Int} (h : getNum bs a = none) : gnN bs a = 0 ∧ gnP bs a = 0 ∧ gnOk bs a = false := by simp [gnN, gnP, gnOk, h]
def gnsAcc (bs : List UInt8) : Nat → List Int → Int → Option (List Int × Int)
  | 0, L, p => some (L, p)
  | f + 1, L, p => match getNum bs p with
    | none => none
    | some (n, q) => gnsAcc bs f (L ++ [n]) (q : Int)
def getNums (bs : List UInt8) (a : Int) : Option (List Int × Int) := match getNum bs a with
  | none => none
  | some (k, q) => if inB k 0 64 then gnsAcc bs k.toNat [] (q : Int) else none
def gnsL (bs : List UInt8) (a : Int) : List Int := match getNums bs a with | some (l, _) => l | none => []
def gnsP (bs : List UInt8) (a : Int) : Int := match getNums bs a with | some (_, p) => p | none => 0
def gnsOk (bs : List UInt8) (a : Int) : Bool := (getNums bs a).isSome
theorem gns_nothing {bs : List UInt8} {a : Int} (h : getNums bs a = none) : gnsL bs a = [] ∧ gnsP bs a = 0 ∧ gnsOk bs a = false := by simp [gnsL, gnsP, gnsOk, h]
theorem gns_parts {bs : List UInt8} {a : Int} {l : List Int} {p : Int} (h : getNums bs a = some (l, p)) : gnsL bs a = l ∧ gnsP bs a = p ∧ gnsOk bs a = true := by simp [gnsL, gnsP, gnsOk, h]
theorem gns_no {bs : List UInt8} {a : Int} (h : getNum bs a = none) : getNums bs a = none := by simp [getNums, h]
theorem gns_wide {bs : List UInt8} {a k : Int} {q : Nat} (h : getNum bs a = some (k, q)) (hk : inB k 0 64 = false) : getNums bs a = none := by simp [getNums, h, hk]
theorem gns_start {bs : List UInt8} {a : Int} {k q : Nat} (h : getNum bs a = some ((k : Int), q)) (hk : inB (k : Int) 0 64 = true) : getNums bs a = gnsAcc bs (k - 0) [] (q : Int) := by simp [getNums, h, hk]
theorem gns_fail {P : Option (List Int × Int)} {bs : List UInt8} {K j q : Nat} {L : List Int} (h : P = gnsAcc bs (K - j) L (q : Int)) (hj : j < K) (hg : getNum bs (q : Int) = none) : P = none := by
  rw [h, show K - j = (K - (j + 1)) + 1 from by omega]
  simp [gnsAcc, hg]
theorem gns_more {P : Option (List Int × Int)} {bs : List UInt8} {K j q q2 : Nat} {L : List Int} {x : Int} (h : P = gnsAcc bs (K - j) L (q : Int)) (hj : j < K) (hg : getNum bs (q : Int) = some (x, q2)) : P = gnsAcc bs (K - (j + 1)) (L ++ [x]) (q2 : Int) := by
  rw [h, show K - j = (K - (j + 1)) + 1 from by omega]
  simp [gnsAcc, hg]
theorem gns_end {P : Option (List Int × Int)} {bs : List UInt8} {K j q : Nat} {L : List Int} (h : P = gnsAcc bs (K - j) L (q : Int)) (hj : ¬ j < K) : P = some (L, (q : Int)) := by
  rw [h, show K - j = 0 from by omega]
  simp [gnsAcc]
theorem gnsAcc_len {bs : List UInt8} : ∀ {f : Nat} {L l : List Int} {p q : Int}, gnsAcc bs f L p = some (l, q) → l.length = L.length + f
  | 0, L, l, p, q, h => by simp [gnsAcc] at h; simp [h.1]
  | f + 1, L, l, p, q, h => by
    unfold gnsAcc at h
    split at h
    · cases h
    · have := gnsAcc_len h
      simp at this
      omega
theorem gnsL_len (bs : List UInt8) (a : Int) : (gnsL bs a).length ≤ 64 := by
  unfold gnsL
  split
  · rename_i l p h
    unfold getNums at h
    split at h
    · cases h
    · split at h
      · rename_i hk
        have := gnsAcc_len h
        simp [inB] at hk
        simp at this
        omega
      · cases h
  · simp
theorem intCells_len (xs : List Int) : (intCells xs).length = xs.length := by simp [intCells]
theorem intCells_one (xs : List Int) (x : Int) : intCells xs ++ [.int .i64 x] = intCells (xs ++ [x]) := by simp [intCells]
set_option maxHeartbeats 1600000 in
theorem impl_GetNums (w : World) (A : Option Addr) (c : Nat) (bs : List UInt8) (hr : Reads w w.heap.size 1 A bs.length (byteCells bs)) (hl : bs.length ≤ 1099511627776) (n : Int) (hn : I64 n) :
    Calls Try.prog 28 #[.slice A bs.length c, .int .i64 n] w fun e w' => ∃ A' c', e = .returned (.tuple #[.slice A' (gnsL bs n).length c', .int .i64 (gnsP bs n), .bool (gnsOk bs n)]) ∧
      w'.ownsRow w.heap.size 3 1 (.slice A' (gnsL bs n).length c') (gnsL bs n).length (intCells (gnsL bs n)) ∧ Below w.heap.size w w' := by
  obtain ⟨i0, hi1, hz0, hz1, hz2⟩ := info_parts info_Int
  cases hg : getNum bs n with
  | none =>
    have hq := Lib.hid (gn_nothing hg)
    have hp := Lib.hid (gns_nothing (gns_no hg))
    clear hg
    go_enter Try.func28, Try.ntmps28
    go_wp2_with fail
    refine (impl_GetNum _ _ _ _ hr hl n hn).mono ?_
    rintro e w1 ⟨rfl, hb1⟩
    rw [hq.out.1, hq.out.2.1, hq.out.2.2]
    clear hr
    go_wp2
    go_ret3
    rw [hp.out.1, hp.out.2.1, hp.out.2.2]
    exact ⟨none, 0, rfl, World.ownsRow_nil _ _ _ _, hb1⟩
  | some r =>
    obtain ⟨kk, q0⟩ := r
    have hq := Lib.hid (gn_parts hg)
    have hq0 := getNum_pos hg
    cases hw : inB kk 0 64
    · have hp := Lib.hid (gns_nothing (gns_wide hg hw))
      clear hg
      go_enter Try.func28, Try.ntmps28
      go_wp2_with fail
      refine (impl_GetNum _ _ _ _ hr hl n hn).mono ?_
      rintro e w1 ⟨rfl, hb1⟩
      rw [hq.out.1, hq.out.2.1, hq.out.2.2]
      clear hr
      have hsz := hb1.size
      go_wp2_with (go_at_call 52; refine (within_any _ _ _ _).mono ?_; rintro e w9 ⟨rfl, rfl⟩; rw [hw])
      go_ret3
      rw [hp.out.1, hp.out.2.1, hp.out.2.2]
      exact ⟨none, 0, rfl, World.ownsRow_nil _ _ _ _, hb1⟩
    · obtain ⟨K, rfl⟩ := Int.eq_ofNat_of_zero_le (show 0 ≤ kk by simp [inB] at hw; omega)
      have hK : K ≤ 64 := by simp [inB] at hw; omega
      have hP := Lib.hid (gns_start hg hw)
      clear hg
      go_enter Try.func28, Try.ntmps28
      go_wp2_with fail
      refine (impl_GetNum _ _ _ _ hr hl n hn).mono ?_
      rintro e w1 ⟨rfl, hb1⟩
      rw [hq.out.1, hq.out.2.1, hq.out.2.2]
      have hsz := hb1.size
      clear hq
      go_wp2_with (go_at_call 52; refine (within_any _ _ _ _).mono ?_; rintro e w9 ⟨rfl, rfl⟩; rw [hw])
      clear hw
      go_loopw [1, 9, 10] (fun p o i wr => ∃ (j q : Nat) (L : List Int) (A' : Option Addr) (c' : Nat), j ≤ K ∧ q ≤ bs.length ∧ L.length ≤ 64 ∧ Hid (L.length = j) ∧ i = .int .i64 j ∧ p = .int .i64 q ∧ o = .slice A' L.length c' ∧ wr.ownsRow w.heap.size 3 1 (.slice A' L.length c') L.length (intCells L) ∧ Hid (getNums bs n = gnsAcc bs (K - j) L (q : Int)) ∧ Below w.heap.size w wr) (fun _ _ i _ => K - (intOf i).toNat)
      case atStart => exact ⟨0, q0, [], _, _, Nat.zero_le _, hq0, by simp, Lib.hid rfl, rfl, rfl, rfl, own_empty (by first | exact hsz | exact Nat.le_refl _), hP, by first | exact Below.alloc0 hb1 _ | exact hb1.alloc hsz _⟩
      case round =>
        clear hb1 hsz hP hq0
        obtain ⟨j, q, L, A', c', hj, hq0, hL64, hL, rfl, rfl, rfl, hown, hP, hbl⟩ := hrel
        have hsz := hbl.size
        by_cases hjK : j < K
        · have hr2 := (hr.below hbl (Nat.le_refl _)).more hsz
          cases hg : getNum bs (q : Int) with
          | none =>
            have hq := Lib.hid (gn_nothing hg)
            have hp := Lib.hid (gns_nothing (gns_fail hP.out hjK hg))
            clear hg hP hr hown
            go_wp2_with fail
            refine (impl_GetNum _ _ _ _ hr2 hl _ ⟨by omega, by omega⟩).mono ?_
            rintro e w1 ⟨rfl, hb1⟩
            rw [hq.out.1, hq.out.2.1, hq.out.2.2]
            replace hbl := hbl.trans (hb1.mono hsz)
            have hsz1 := hbl.size
            clear hr2 hb1
            go_wp2
            go_ret3
            rw [hp.out.1, hp.out.2.1, hp.out.2.2]
            exact ⟨none, 0, rfl, World.ownsRow_nil _ _ _ _, hbl⟩
          | some r =>
            obtain ⟨x, q2⟩ := r
            have hq := Lib.hid (gn_parts hg)
            have hq2 := getNum_pos hg
            have hP2 := Lib.hid (gns_more hP.out hjK hg)
            clear hg hP hr
            go_wp2_with fail
            refine (impl_GetNum _ _ _ _ hr2 hl _ ⟨by omega, by omega⟩).mono ?_
            rintro e w1 ⟨rfl, hb1⟩
            rw [hq.out.1, hq.out.2.1, hq.out.2.2]
            replace hbl := hbl.trans (hb1.mono hsz)
            replace hown := own_step hown hb1
            replace hsz := hbl.size
            clear hr2 hb1 hq
            go_wp2_with (at_builtin; refine append_one rfl (.tmp 43) (.tmp 45) 28 rfl w.heap.size 3 i0 _ 1 8 Try.underlying28 hi1 hz0 hz1 hz2 rfl (by omega) (by omega) A' L.length c' _ rfl hown [.int .i64 x] _ rfl (by first | rfl | simp) rfl (by simp [Value.oneCell']) hsz (by omega) ?_; intro A2 c2 w2 hown2 hb2)
            rw [intCells_one] at hown2
            have hbl2 := hbl.trans hb2
            clear hown hb2 hbl
            go_wp2
            go_roundw
            case rel => exact ⟨j + 1, q2, L ++ [x], A2, c2, by omega, hq2, by have := hL.out; simp; omega, Lib.hid (by have := hL.out; simp; omega), by go_num, rfl, by simp, by simpa using hown2, hP2, hbl2⟩
            case measure => simp [intOf]; omega
        · have hp := Lib.hid (gns_parts (gns_end hP.out hjK))
          clear hP
          go_wp2
          go_ret3
          rw [hp.out.1, hp.out.2.1, hp.out.2.2]
          exact ⟨_, _, rfl, hown, hbl⟩
set_option maxHeartbeats 1600000 in
theorem spec_GetNums (w : World) (A : Option Addr) (c : Nat) (bs : List UInt8) (hr : Reads w w.heap.size 1 A bs.length (byteCells bs)) (hl : bs.length ≤ 1099511627776) (n : Int) (hn : I64 n) :
    Calls Try.prog 27 #[.slice A bs.length c, .int .i64 n] w fun e w' => ∃ A' c', e = .returned (.tuple #[.slice A' (gnsL bs n).length c', .int .i64 (gnsP bs n), .bool (gnsOk bs n)]) ∧
      w'.ownsRow w.heap.size 3 1 (.slice A' (gnsL bs n).length c') (gnsL bs n).length (intCells (gnsL bs n)) ∧ Below w.heap.size w w' := by
  obtain ⟨i0, hi1, hz0, hz1, hz2⟩ := info_parts info_Int
  cases hg : getNum bs n with
  | none =>
    have hq := Lib.hid (gn_nothing hg)
    have hp := Lib.hid (gns_nothing (gns_no hg))
    clear hg
    go_enter Try.func27, Try.ntmps27
    go_wp2_with fail
    refine (spec_GetNum _ _ _ _ hr hl n hn).mono ?_
    rintro e w1 ⟨rfl, hb1⟩
    rw [hq.out.1, hq.out.2.1, hq.out.2.2]
    clear hr
    go_wp2
    go_ret3
    rw [hp.out.1, hp.out.2.1, hp.out.2.2]
    exact ⟨_, _, rfl, own_empty hb1.size, Below.alloc0 hb1 _⟩
  | some r =>
    obtain ⟨kk, q0⟩ := r
    have hq := Lib.hid (gn_parts hg)
    have hq0 := getNum_pos hg
    cases hw : inB kk 0 64
    · have hp := Lib.hid (gns_nothing (gns_wide hg hw))
      clear hg
      go_enter Try.func27, Try.ntmps27
      go_wp2_with fail
      refine (spec_GetNum _ _ _ _ hr hl n hn).mono ?_
      rintro e w1 ⟨rfl, hb1⟩
      rw [hq.out.1, hq.out.2.1, hq.out.2.2]
      clear hr
      have hsz := hb1.size
      go_wp2_with (go_at_call 49; refine (l1In_any _ _ _ _).mono ?_; rintro e w9 ⟨rfl, rfl⟩; rw [hw])
      go_ret3
      rw [hp.out.1, hp.out.2.1, hp.out.2.2]
      exact ⟨_, _, rfl, own_empty hsz, Below.alloc0 hb1 _⟩
    · obtain ⟨K, rfl⟩ := Int.eq_ofNat_of_zero_le (show 0 ≤ kk by simp [inB] at hw; omega)
      have hK : K ≤ 64 := by simp [inB] at hw; omega
      have hP := Lib.hid (gns_start hg hw)
      clear hg
      go_enter Try.func27, Try.ntmps27
      go_wp2_with fail
      refine (spec_GetNum _ _ _ _ hr hl n hn).mono ?_
      rintro e w1 ⟨rfl, hb1⟩
      rw [hq.out.1, hq.out.2.1, hq.out.2.2]
      have hsz := hb1.size
      clear hq
      go_wp2_with (go_at_call 49; refine (l1In_any _ _ _ _).mono ?_; rintro e w9 ⟨rfl, rfl⟩; rw [hw])
      clear hw
      go_loopw [8, 10, 11] (fun p o i wr => ∃ (j q : Nat) (L : List Int) (A' : Option Addr) (c' : Nat), j ≤ K ∧ q ≤ bs.length ∧ L.length ≤ 64 ∧ Hid (L.length = j) ∧ i = .int .i64 j ∧ p = .int .i64 q ∧ o = .slice A' L.length c' ∧ wr.ownsRow w.heap.size 3 1 (.slice A' L.length c') L.length (intCells L) ∧ Hid (getNums bs n = gnsAcc bs (K - j) L (q : Int)) ∧ Below w.heap.size w wr) (fun _ _ i _ => K - (intOf i).toNat)
      case atStart => exact ⟨0, q0, [], _, _, Nat.zero_le _, hq0, by simp, Lib.hid rfl, rfl, rfl, rfl, own_empty (by first | exact hsz | exact Nat.le_refl _), hP, by first | exact Below.alloc0 hb1 _ | exact hb1.alloc hsz _⟩
      case round =>
        clear hb1 hsz hP hq0
        obtain ⟨j, q, L, A', c', hj, hq0, hL64, hL, rfl, rfl, rfl, hown, hP, hbl⟩ := hrel
        have hsz := hbl.size
        by_cases hjK : j < K
        · have hr2 := (hr.below hbl (Nat.le_refl _)).more hsz
          cases hg : getNum bs (q : Int) with
          | none =>
            have hq := Lib.hid (gn_nothing hg)
            have hp := Lib.hid (gns_nothing (gns_fail hP.out hjK hg))
            clear hg hP hr hown
            go_wp2_with fail
            refine (spec_GetNum _ _ _ _ hr2 hl _ ⟨by omega, by omega⟩).mono ?_
            rintro e w1 ⟨rfl, hb1⟩
            rw [hq.out.1, hq.out.2.1, hq.out.2.2]
            replace hbl := hbl.trans (hb1.mono hsz)
            have hsz1 := hbl.size
            clear hr2 hb1
            go_wp2
            go_ret3
            rw [hp.out.1, hp.out.2.1, hp.out.2.2]
            exact ⟨_, _, rfl, own_empty hsz1, Below.alloc0 hbl _⟩
          | some r =>
            obtain ⟨x, q2⟩ := r
            have hq := Lib.hid (gn_parts hg)
            have hq2 := getNum_pos hg
            have hP2 := Lib.hid (gns_more hP.out hjK hg)
            clear hg hP hr
            go_wp2_with fail
            refine (spec_GetNum _ _ _ _ hr2 hl _ ⟨by omega, by omega⟩).mono ?_
            rintro e w1 ⟨rfl, hb1⟩
            rw [hq.out.1, hq.out.2.1, hq.out.2.2]
            replace hbl := hbl.trans (hb1.mono hsz)
            replace hown := own_step hown hb1
            replace hsz := hbl.size
            clear hr2 hb1 hq
            go_wp2_with (at_builtin; refine append_one rfl (.tmp 46) (.tmp 48) 28 rfl w.heap.size 3 i0 _ 1 8 Try.underlying28 hi1 hz0 hz1 hz2 rfl (by omega) (by omega) A' L.length c' _ rfl hown [.int .i64 x] _ rfl (by first | rfl | simp) rfl (by simp [Value.oneCell']) hsz (by omega) ?_; intro A2 c2 w2 hown2 hb2)
            rw [intCells_one] at hown2
            have hbl2 := hbl.trans hb2
            clear hown hb2 hbl
            go_wp2
            go_roundw
            case rel => exact ⟨j + 1, q2, L ++ [x], A2, c2, by omega, hq2, by have := hL.out; simp; omega, Lib.hid (by have := hL.out; simp; omega), by go_num, rfl, by simp, by simpa using hown2, hP2, hbl2⟩
            case measure => simp [intOf]; omega
        · have hp := Lib.hid (gns_parts (gns_end hP.out hjK))
          clear hP
          go_wp2
          go_ret3
          rw [hp.out.1, hp.out.2.1, hp.out.2.2]
          exact ⟨_, _, rfl, hown, hbl⟩

end Go.Proofs.Ytbmgfcoiailolaa
