/-
  Contracts of bytes drawn, of DrawPutNum, and of the laws' same, at and big; the plain law that a number is read back from its bytes.
-/
import Derived.Test.YtkgkommlfceneaaDraw
import Derived.Test.YtkgkommlfceneaaGet
namespace Go.Proofs.Ytkgkommlfceneaa
open Go.RowKit
set_option linter.unusedVariables false
set_option maxRecDepth 100000

theorem grown_below {w0 w w' : World} {row : Option Nat} (hg : w0.grownBy w row) (hb : Below w0.heap.size w w') : w0.grownBy w' row :=
  ⟨hb.os.trans hg.os, hb.tape.trans hg.tape, hb.output.trans hg.output, Nat.le_trans hg.size hb.size, fun k hk hne => (hb.block k hk).trans (hg.block k hk hne)⟩
theorem Cur.below' {w w' : World} {p B : Nat} (hc : Cur w p) (hb : Below B w w') (hp : p < B) : Cur w' p := by
  obtain ⟨A, c, bs, i, h, hc⟩ := hc
  exact ⟨A, c, bs, i, h, (hb.block p hp).trans hc.1, hc.2.1.below hb (Nat.le_of_lt hp), hc.2.2⟩
theorem own_cur {w w' : World} {base size n : Nat} {e : TypeId} {v : Value} {xs : List Value} {p : Nat} (h : w.ownsRow base e size v n xs) (hg : w.grownBy w' (some p)) (hp : p < base) : w'.ownsRow base e size v n xs := by
  refine h.kept hg ?_
  cases hv : v.ownBlock with
  | none => exact .inl rfl
  | some k => exact .inr fun he => by have := (h.lt k hv).1; have := Option.some.inj he; omega
set_option maxHeartbeats 800000 in
theorem l1Bytes_any (w : World) (p : Nat) (hc : Cur w p) (n : Nat) (h2 : n ≤ 1000000000) :
    Calls Try.prog 101 #[.pointer (some ⟨p, 0, none⟩), .int .i64 (n : Int)] w fun e w' => ∃ (A : Option Addr) (c : Nat) (bs : List UInt8), e = .returned (.slice A bs.length c) ∧ bs.length = n ∧ w'.ownsRow w.heap.size 5 1 (.slice A bs.length c) bs.length (byteCells bs) ∧ Cur w' p ∧ w.grownBy w' (some p) := by
  obtain ⟨i0, hi0, hz0, hz1, hz2⟩ := info_parts info_Byte
  have hp := hc.lt
  go_enter Try.func101, Try.ntmps101
  go_wp2
  go_loopw [5, 6] (fun o i wr => ∃ (k : Nat) (bs : List UInt8) (A' : Option Addr) (c' : Nat), k ≤ n ∧ i = .int .i64 k ∧ o = .slice A' k c' ∧ wr.ownsRow w.heap.size 5 1 (.slice A' k c') k (byteCells bs) ∧ Hid (bs.length = k) ∧ Cur wr p ∧ w.grownBy wr (some p)) (fun _ i _ => n - (intOf i).toNat)
  case atStart => exact ⟨0, [], _, _, Nat.zero_le _, rfl, rfl, own_empty (Nat.le_refl _), Lib.hid rfl, hc.alloc _, grown_alloc _ _ _⟩
  case round =>
    obtain ⟨k, bs, A', c', hk, rfl, rfl, hown, hL, hc1, hg1⟩ := hrel
    by_cases hlt : k < n
    · go_wp2_with fail
      refine (l1Byte_any _ p hc1).mono ?_
      rintro e w1 ⟨x, rfl, hx, hc2, hg2⟩
      have hown2 := own_cur hown hg2 hp
      have hg3 := hg1.trans hg2
      have hsz := hg3.size
      clear hown hc1 hg1 hg2
      go_wp2_with (at_builtin; go_loud (refine append_one rfl (.tmp 13) (.tmp 17) 34 rfl w.heap.size 5 i0 _ 1 1 Try.underlying34 hi0 hz0 hz1 hz2 rfl (by omega) (by omega) A' k c' _ rfl hown2 [.int .u8 (x : Int)] _ rfl (by first | rfl | simp) rfl (by simp [Value.oneCell']) hsz (by omega) ?_); intro A2 c2 w2 hown3 hb3)
      rw [byteCells_last _ _ (by omega)] at hown3
      have hc4 := hc2.below' hb3 hp
      have hg4 := grown_below hg3 hb3
      clear hown2 hc2 hg3 hb3 hsz
      go_wp2
      go_roundw
      case rel => exact ⟨k + 1, bs ++ [UInt8.ofNat x], A2, c2, by omega, by go_num, rfl, hown3, Lib.hid (by simp [hL.out]), hc4, hg4⟩
      case measure => simp [intOf]; omega
    · have hkn : k = n := by omega
      have hL' := hL.out
      subst hL'
      have HK := Lib.hid hkn
      clear hkn hL
      go_wp2
      go_ret
      exact ⟨_, _, _, rfl, HK.out, hown, hc1, hg1⟩
set_option maxHeartbeats 800000 in
theorem DrawPutNum_any (w : World) (A : Option Addr) (c : Nat) (cs : List UInt8) (hr : Reads w w.heap.size 1 A cs.length (byteCells cs)) (hl : cs.length ≤ 1099511627776) :
    Calls Try.prog 45 #[.slice A cs.length c] w fun e w' => ∃ (A' : Option Addr) (c' : Nat) (bs : List UInt8) (n : Int), e = .returned (.tuple #[.slice A' bs.length c', .int .i64 n]) ∧ bs.length ≤ 2 ∧ I64 n ∧ w'.ownsRow w.heap.size 5 1 (.slice A' bs.length c') bs.length (byteCells bs) ∧ Below w.heap.size w w' := by
  go_enter Try.func45, Try.ntmps45
  go_wp2_with fail
  refine (l1New_any _ _ _ _ hr hl).mono ?_
  rintro e w1 ⟨p, rfl, hp, hc1, hb1⟩
  go_wp2_with fail
  refine (l1Below_any _ p hc1 3 (by omega) (by omega)).mono ?_
  rintro e w2 ⟨k, rfl, hk, hc2, hg2⟩
  have hb2 := hb1.grown hg2 hb1.size (fun q hq => by have := Option.some.inj hq; omega)
  go_wp2_with fail
  refine (l1Bytes_any _ p hc2 k (by omega)).mono ?_
  rintro e w3 ⟨A3, c3, bs, rfl, hbl, hown3, hc3, hg3⟩
  have hb3 := hb2.grown hg3 hb2.size (fun q hq => by have := Option.some.inj hq; omega)
  have hbl2 : bs.length ≤ 2 := by omega
  have hp2 := hc2.lt
  clear hbl
  go_wp2_with fail
  refine (l1One_any _ p hc3).mono ?_
  rintro e w4 ⟨n, rfl, hn, hc4, hg4⟩
  have hb4 := hb3.grown hg4 hb3.size (fun q hq => by have := Option.some.inj hq; omega)
  have hown4 := own_cur hown3 hg4 hp2
  go_wp2
  go_ret2
  exact ⟨_, _, bs, n, rfl, hbl2, hn, ⟨hown4.1, hown4.2.imp (fun h => h) fun ⟨g, cap, cur, h1, h2, h3⟩ => ⟨g, cap, cur, h1, Nat.le_trans hb2.size h2, h3⟩⟩, hb4⟩
set_option maxHeartbeats 400000 in
theorem same_same (w : World) (A A' : Option Addr) (c c' : Nat) (bs : List UInt8) (hr : Reads w w.heap.size 1 A bs.length (byteCells bs)) (hr' : Reads w w.heap.size 1 A' bs.length (byteCells bs)) (hl : bs.length ≤ 1099511627776) :
    Calls Try.prog 47 #[.slice A bs.length c, .slice A' bs.length c'] w fun e w' => e = .returned (.bool true) ∧ Below w.heap.size w w' := by
  go_enter Try.func47, Try.ntmps47
  go_wp2
  go_loopw [5] (fun i wr => ∃ k : Nat, k ≤ bs.length ∧ i = .int .i64 k ∧ Below w.heap.size w wr) (fun i _ => bs.length - (intOf i).toNat)
  case atStart => exact ⟨0, Nat.zero_le _, rfl, Below.refl _ _⟩
  case round =>
    obtain ⟨k, hk, rfl, hbl⟩ := hrel
    by_cases hlt : k < bs.length
    · obtain ⟨b, off, x, rfl, hb, hx, hc⟩ := hr.byte hlt
      obtain ⟨b', off', x', rfl, hb', hx', hc'⟩ := hr'.byte hlt
      have hxx : x' = x := Option.some.inj (hx'.out.symm.trans hx.out)
      subst hxx
      have hrd : wr.cell? ⟨b, off + k, none⟩ = some (.int .u8 (x'.toNat : Int)) := (hbl.cell (p := ⟨b, off + k, none⟩) hb).trans hc
      have hrd' : wr.cell? ⟨b', off' + k, none⟩ = some (.int .u8 (x'.toNat : Int)) := (hbl.cell (p := ⟨b', off' + k, none⟩) hb').trans hc'
      clear hr hr' hc hc'
      go_wp2
      go_quiet (fail)
      all_goals go_wp2
      go_roundw
      case rel => exact ⟨k + 1, by omega, by go_num, below_drewN hbl _⟩
      case measure => simp [intOf]; omega
    · go_wp2
      go_ret
      exact ⟨rfl, hbl⟩
theorem at_any (w : World) (A : Option Addr) (c : Nat) (bs : List UInt8) (hr : Reads w w.heap.size 1 A bs.length (byteCells bs)) (hl : bs.length ≤ 1048576) (k : Nat) (hk : k ≤ 1000) :
    Calls Try.prog 50 #[.slice A bs.length c, .int .i64 (k : Int)] w fun e w' => ∃ x : Nat, e = .returned (.int .i64 (x : Int)) ∧ x ≤ 255 ∧ w = w' := by
  by_cases hlt : k < bs.length
  · obtain ⟨b, off, x, rfl, hb, hx, hc⟩ := hr.byte hlt
    have hx255 := x.toNat_lt
    have hwr : IntKind.i64.wrap (x.toNat : Int) = (x.toNat : Int) := by rw [IntKind.wrap_i64]; omega
    clear hr hx
    go_enter Try.func50, Try.ntmps50
    go_wp2
    go_ret
    exact ⟨x.toNat, rfl, by omega, rfl⟩
  · clear hr
    go_enter Try.func50, Try.ntmps50
    go_wp2
    go_ret
    exact ⟨(k * 31 + bs.length * 7) % 256, ret_int (by omega), by omega, rfl⟩
theorem big_any (w : World) (A : Option Addr) (n c : Nat) :
    Calls Try.prog 44 #[.slice A n c] w fun e w' => e = .returned (.bool (decide (1048576 < (n : Int)))) ∧ w = w' := by
  go_enter Try.func44, Try.ntmps44
  go_wp2
  go_ret
  exact ⟨ret_bool (by simp), rfl⟩

theorem zag_zig {n : Int} (h : inB n (-1000000000) 1000000000 = true) : zag (zig n) = n := by
  have hn := inB_iff.1 h
  have e : zig n = if n < 0 then -2 * n - 1 else 2 * n := by unfold zig; rw [h]; rfl
  have hb : inB (zig n) 0 2000000000 = true := inB_true (zig_bd n)
  unfold zag
  rw [hb, e]
  simp only [if_true]
  by_cases hneg : n < 0
  · rw [if_pos hneg, if_pos (by omega)]
    omega
  · rw [if_neg hneg, if_neg (by omega)]
    omega
theorem getGo_tail {bs : List UInt8} {p : Nat} : ∀ (f i x z : Nat), (numTail z).length ≤ f → (∀ j, j < (numTail z).length → bs[p + i + j]? = (numTail z)[j]?) → (0 < i → 0 < z) → x + z * 128 ^ i ≤ 2000000000 →
    getGo bs p f i x = some (zag ((x + z * 128 ^ i : Nat) : Int), p + i + (numTail z).length) := by
  intro f
  induction f with
  | zero =>
    intro i x z h1
    have : 0 < (numTail z).length := by
      by_cases h : 128 ≤ z
      · rw [numTail_more h]; simp
      · rw [numTail_end h]; simp
    omega
  | succ f ih =>
    intro i x z h1 h2 h3 h4
    by_cases h : 128 ≤ z
    · have hc : bs[p + i]? = some (UInt8.ofNat (z % 128 + 128)) := by
        have := h2 0 (by rw [numTail_more h]; simp)
        rw [numTail_more h] at this
        simpa using this
      have ht : (UInt8.ofNat (z % 128 + 128)).toNat = z % 128 + 128 := by
        rw [UInt8.toNat_ofNat', Nat.mod_eq_of_lt (by omega)]
      have e : x + (z % 128 + 128) % 128 * 128 ^ i + z / 128 * 128 ^ (i + 1) = x + z * 128 ^ i := by
        have h128 : (z % 128 + 128) % 128 = z % 128 := by omega
        rw [h128, Nat.pow_succ, show z / 128 * (128 ^ i * 128) = 128 * (z / 128) * 128 ^ i by rw [Nat.mul_comm (128 ^ i) 128, ← Nat.mul_assoc, Nat.mul_comm (z / 128) 128]]
        rw [Nat.add_assoc, ← Nat.add_mul, Nat.mod_add_div]
      rw [getGo_more hc (by omega), ht, ih (i + 1) _ (z / 128) (by rw [numTail_more h] at h1; simp at h1; omega) ?_ (fun _ => by omega) (by rw [e]; exact h4), e]
      · rw [numTail_more h]
        simp
        omega
      · intro j hj
        have := h2 (j + 1) (by rw [numTail_more h]; simp; omega)
        rw [numTail_more h, List.getElem?_cons_succ, show p + i + (j + 1) = p + (i + 1) + j by omega] at this
        exact this
    · have hc : bs[p + i]? = some (UInt8.ofNat z) := by
        have := h2 0 (by rw [numTail_end h]; simp)
        rw [numTail_end h] at this
        simpa using this
      have ht : (UInt8.ofNat z).toNat = z := by rw [UInt8.toNat_ofNat', Nat.mod_eq_of_lt (by omega)]
      have hm : z % 128 = z := Nat.mod_eq_of_lt (by omega)
      have hok : ¬ ((0 < i ∧ (UInt8.ofNat z).toNat = 0) ∨ 2000000000 < x + (UInt8.ofNat z).toNat % 128 * 128 ^ i) := by
        rw [ht, hm]
        intro hh
        rcases hh with ⟨h5, h6⟩ | h5
        · have := h3 h5
          omega
        · omega
      rw [getGo_good hc (by omega) hok, ht, hm, numTail_end h]
      rfl
theorem getNum_back {b rest : List UInt8} {n : Int} (h : inB n (-1000000000) 1000000000 = true) : getNum (putNum b n ++ rest) (b.length : Int) = some (n, (putNum b n).length) := by
  have hz := zig_bd n
  rw [putNum_good h]
  unfold getNum
  rw [if_neg (by omega), Int.toNat_natCast]
  have hzz : ((zig n).toNat : Int) = zig n := by omega
  have h5 : (numTail (zig n).toNat).length ≤ 5 := numTail_len 4 _ (by omega)
  rw [getGo_tail 5 0 0 (zig n).toNat h5 (fun j hj => ?_) (fun hh => absurd hh (by omega)) (by simp; omega)]
  · simp only [Nat.zero_add, Nat.pow_zero, Nat.mul_one, Nat.add_zero, hzz, zag_zig h, List.length_append]
  · rw [Nat.add_zero, List.append_assoc, List.getElem?_append_right (by omega), Nat.add_sub_cancel_left, List.getElem?_append_left hj]

end Go.Proofs.Ytkgkommlfceneaa
