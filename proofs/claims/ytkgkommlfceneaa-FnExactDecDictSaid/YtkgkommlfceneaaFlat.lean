/-
  Contracts of the laws' helpers on slices of bytes, of integers and of strings: copies, comparisons, marks, and the test that the marks still stand.
-/
import Derived.Test.YtkgkommlfceneaaMark
namespace Go.Proofs.Ytkgkommlfceneaa
open Go.RowKit
set_option linter.unusedVariables false
set_option maxRecDepth 100000

set_option maxHeartbeats 400000 in
theorem toByteS_any (w : World) (A : Option Addr) (c : Nat) (bs : List UInt8) (hr : Reads w w.heap.size 1 A bs.length (byteCells bs)) (hl : bs.length ≤ 1099511627776) :
    Calls Try.prog 23 #[.slice A bs.length c] w fun e w' => ∃ g, e = .returned (.slice (some ⟨g, 0, none⟩) bs.length bs.length) ∧
      w'.ownsRow w.heap.size 5 1 (.slice (some ⟨g, 0, none⟩) bs.length bs.length) bs.length (byteCells bs) ∧ Below w.heap.size w w' := by
  obtain ⟨i0, hi0, hz0, hz1, hz2⟩ := info_parts info_Byte
  have hlen : (byteCells bs).length = bs.length := by simp [byteCells]
  go_enter Try.func23, Try.ntmps23
  go_wp2_with (at_make; refine wpList_make_full _ rfl _ _ 34 rfl w.heap.size 5 i0 _ 1 Try.underlying34 hi0 hz0 hz1 _ _ _ _ bs.length rfl rfl rfl rfl (by rw [hz2]; omega) (by unfold maxLen; omega) (Nat.le_refl _) ?_; intro w1 hown hg)
  rw [show (madeCells (Value.int .u8 0).cells (bs.length * 1)).toList = List.replicate bs.length (Value.int .u8 0) from by rw [Nat.mul_one]; exact toList_madeCells_one _ _] at hown
  have hbl : Below w.heap.size w w1 := (Below.refl _ _).grown hg (Nat.le_refl _) (fun k hk => by cases hk)
  clear hg
  go_loopw [4] (fun i wr => ∃ k : Nat, k ≤ bs.length ∧ i = .int .i64 k ∧ wr.ownsRow w.heap.size 5 1 (.slice (some ⟨w.heap.size, 0, none⟩) bs.length bs.length) bs.length ((byteCells bs).take k ++ List.replicate ((byteCells bs).length - k) (Value.int .u8 0)) ∧ Below w.heap.size w wr)
    (fun i _ => bs.length - (intOf i).toNat)
  case atStart => exact ⟨0, Nat.zero_le _, rfl, by simpa [hlen] using hown, hbl⟩
  case round =>
    obtain ⟨k, hk, rfl, hown, hbl⟩ := hrel
    by_cases hlt : k < bs.length
    · obtain ⟨b, off, x, rfl, hb, hx, hc⟩ := hr.byte hlt
      have hrd : wr.cell? ⟨b, off + k, none⟩ = some (.int .u8 (x.toNat : Int)) := (hbl.cell (p := ⟨b, off + k, none⟩) hb).trans hc
      obtain ⟨u, hcw⟩ := own_cell (j := k) hown (by omega)
      have hfw := hown.frozenAt k
      have hst := (hown.stored k (.int .u8 (x.toNat : Int))).1
      rw [fill_set _ _ _ _ (byteCells_get hx.out)] at hst
      have hb2 : Below w.heap.size w (wr.setCell ⟨w.heap.size, k, none⟩ (.int .u8 (x.toNat : Int))) := hbl.setCell (Nat.le_refl _) _
      clear hr hc hown hbl
      go_wp2
      go_roundw
      case rel => exact ⟨k + 1, by omega, by go_num, hst, hb2⟩
      case measure => simp [intOf]; omega
    · have hkn : k = bs.length := by omega
      subst hkn
      go_wp2
      go_ret
      rw [fill_done _ _ _ hlen] at hown
      exact ⟨w.heap.size, rfl, hown, hbl⟩

set_option maxHeartbeats 400000 in
theorem eqByteS_same (w : World) (A A' : Option Addr) (c c' : Nat) (bs : List UInt8) (hr : Reads w w.heap.size 1 A bs.length (byteCells bs)) (hr' : Reads w w.heap.size 1 A' bs.length (byteCells bs)) (hl : bs.length ≤ 1099511627776) :
    Calls Try.prog 25 #[.slice A bs.length c, .slice A' bs.length c'] w fun e w' => e = .returned (.bool true) ∧ Below w.heap.size w w' := by
  go_enter Try.func25, Try.ntmps25
  go_wp2
  go_loopw [5] (fun i wr => ∃ k : Nat, k ≤ bs.length ∧ i = .int .i64 k ∧ Below w.heap.size w wr) (fun i _ => bs.length - (intOf i).toNat)
  case atStart => exact ⟨0, Nat.zero_le _, rfl, Below.refl _ _⟩
  case round =>
    obtain ⟨k, hk, rfl, hbl⟩ := hrel
    by_cases hlt : k < bs.length
    · obtain ⟨b, off, x, rfl, hb, hx, hc⟩ := hr.byte hlt
      obtain ⟨b', off', x', rfl, hb', hx', hc'⟩ := hr'.byte hlt
      have hxx : x' = x := Option.some.inj (hx'.out.symm.trans hx.out)
      subst hxx
      have hrd : wr.cell? ⟨b, off + k, none⟩ = some (.int .u8 (x'.toNat : Int)) := (hbl.cell (p := ⟨b, off + k, none⟩) hb).trans hc
      have hrd' : wr.cell? ⟨b', off' + k, none⟩ = some (.int .u8 (x'.toNat : Int)) := (hbl.cell (p := ⟨b', off' + k, none⟩) hb').trans hc'
      clear hr hr' hc hc'
      go_wp2
      go_quiet (fail)
      all_goals go_wp2
      go_roundw
      case rel => exact ⟨k + 1, by omega, by go_num, below_drewN hbl _⟩
      case measure => simp [intOf]; omega
    · go_wp2
      go_ret
      exact ⟨rfl, hbl⟩

set_option maxHeartbeats 400000 in
theorem markByteS_any (w : World) (base n c : Nat) (A : Option Addr) (xs : List Value) (q : Int) (k : Nat) (hq : q = (k : Int)) (hk : k + n ≤ 1099511627776) (hown : w.ownsRow base 5 1 (.slice A n c) n xs) (hB : base ≤ w.heap.size) :
    Calls Try.prog 26 #[.slice A n c, .int .i64 q] w fun e w' => e = .returned (.int .i64 ((k + n : Nat) : Int)) ∧ w'.ownsRow base 5 1 (.slice A n c) n (byteCells (markByte k n)) ∧ w.grownBy w' (Value.slice A n c).ownBlock := by
  subst hq
  have hlx : xs.length = n := by have := hown.1; omega
  go_enter Try.func26, Try.ntmps26
  go_wp2
  go_loopw [1, 5] (fun q i wr => ∃ j : Nat, j ≤ n ∧ i = .int .i64 j ∧ q = .int .i64 ((k + j : Nat) : Int) ∧ wr.ownsRow base 5 1 (.slice A n c) n (byteCells (markByte k j) ++ xs.drop j) ∧ w.grownBy wr (Value.slice A n c).ownBlock)
    (fun _ i _ => n - (intOf i).toNat)
  case atStart => exact ⟨0, Nat.zero_le _, rfl, rfl, by simpa [markByte, byteCells] using hown, World.grownBy.refl _ _⟩
  case round =>
    obtain ⟨j, hj, rfl, rfl, hown, hbl⟩ := hrel
    by_cases hlt : j < n
    · obtain ⟨g, cap, hv, hg, hgl⟩ := hown.form (by omega)
      obtain ⟨rfl, rfl⟩ : A = some ⟨g, 0, none⟩ ∧ c = cap := by injection hv with h1 h2 h3; exact ⟨h1, h3⟩
      clear hv
      obtain ⟨u, hcw⟩ := own_cell (j := j) hown (by omega)
      have hfw := hown.frozenAt j
      obtain ⟨hst, hgr⟩ := hown.stored j (.int .u8 (((k : Int) + (j : Int)) % 256))
      rw [set_at _ _ _ _ (by simp [byteCells, markByte]) (by omega), ← markByte_snoc] at hst
      have hb2 := hbl.trans hgr
      clear hown hbl hgr
      go_wp2
      go_roundw
      case rel => exact ⟨j + 1, by omega, by go_num, by go_num, hst, hb2⟩
      case measure => simp [intOf]; omega
    · have hkn : j = n := by omega
      subst hkn
      go_wp2
      go_ret
      rw [List.drop_of_length_le (by omega), List.append_nil] at hown
      exact ⟨rfl, hown, hbl⟩

set_option maxHeartbeats 400000 in
theorem heldByteS_any (w : World) (n c : Nat) (A : Option Addr) (q : Int) (k : Nat) (hq : q = (k : Int)) (hk : k + n ≤ 1099511627776) (hr : Reads w w.heap.size 1 A n (byteCells (markByte k n))) :
    Calls Try.prog 43 #[.slice A n c, .int .i64 q] w fun e w' => e = .returned (.int .i64 ((k + n : Nat) : Int)) ∧ Below w.heap.size w w' := by
  subst hq
  go_enter Try.func43, Try.ntmps43
  go_wp2
  go_loopw [1, 5] (fun q i wr => ∃ j : Nat, j ≤ n ∧ i = .int .i64 j ∧ q = .int .i64 ((k + j : Nat) : Int) ∧ Below w.heap.size w wr)
    (fun _ i _ => n - (intOf i).toNat)
  case atStart => exact ⟨0, Nat.zero_le _, rfl, rfl, Below.refl _ _⟩
  case round =>
    obtain ⟨j, hj, rfl, rfl, hbl⟩ := hrel
    by_cases hlt : j < n
    · obtain ⟨b, off, rfl, hb, hc⟩ := hr.2 (by omega)
      have hrd : wr.cell? ⟨b, off + j, none⟩ = some (.int .u8 (((k : Int) + (j : Int)) % 256)) := (hbl.cell (p := ⟨b, off + j, none⟩) hb).trans (hc j _ (markByte_get k n j hlt))
      clear hr hc
      go_wp2
      go_roundw
      case rel => exact ⟨j + 1, by omega, by go_num, by go_num, by first | exact hbl | exact below_drewN hbl _⟩
      case measure => simp [intOf]; omega
    · have hkn : j = n := by omega
      subst hkn
      go_wp2
      go_ret
      exact ⟨rfl, hbl⟩

set_option maxHeartbeats 400000 in
theorem toIntS_any (w : World) (A : Option Addr) (c : Nat) (bs : List Int) (hr : Reads w w.heap.size 1 A bs.length (intCells bs)) (hl : bs.length ≤ 1099511627776) :
    Calls Try.prog 39 #[.slice A bs.length c] w fun e w' => ∃ g, e = .returned (.slice (some ⟨g, 0, none⟩) bs.length bs.length) ∧
      w'.ownsRow w.heap.size 3 1 (.slice (some ⟨g, 0, none⟩) bs.length bs.length) bs.length (intCells bs) ∧ Below w.heap.size w w' := by
  obtain ⟨i0, hi0, hz0, hz1, hz2⟩ := info_parts info_Int
  have hlen : (intCells bs).length = bs.length := by simp [intCells]
  go_enter Try.func39, Try.ntmps39
  go_wp2_with (at_make; refine wpList_make_full _ rfl _ _ 52 rfl w.heap.size 3 i0 _ 1 Try.underlying52 hi0 hz0 hz1 _ _ _ _ bs.length rfl rfl rfl rfl (by rw [hz2]; omega) (by unfold maxLen; omega) (Nat.le_refl _) ?_; intro w1 hown hg)
  rw [show (madeCells (Value.int .i64 0).cells (bs.length * 1)).toList = List.replicate bs.length (Value.int .i64 0) from by rw [Nat.mul_one]; exact toList_madeCells_one _ _] at hown
  have hbl : Below w.heap.size w w1 := (Below.refl _ _).grown hg (Nat.le_refl _) (fun k hk => by cases hk)
  clear hg
  go_loopw [4] (fun i wr => ∃ k : Nat, k ≤ bs.length ∧ i = .int .i64 k ∧ wr.ownsRow w.heap.size 3 1 (.slice (some ⟨w.heap.size, 0, none⟩) bs.length bs.length) bs.length ((intCells bs).take k ++ List.replicate ((intCells bs).length - k) (Value.int .i64 0)) ∧ Below w.heap.size w wr)
    (fun i _ => bs.length - (intOf i).toNat)
  case atStart => exact ⟨0, Nat.zero_le _, rfl, by simpa [hlen] using hown, hbl⟩
  case round =>
    obtain ⟨k, hk, rfl, hown, hbl⟩ := hrel
    by_cases hlt : k < bs.length
    · obtain ⟨b, off, x, rfl, hb, hx, hc⟩ := hr.int hlt
      have hrd : wr.cell? ⟨b, off + k, none⟩ = some (.int .i64 x) := (hbl.cell (p := ⟨b, off + k, none⟩) hb).trans hc
      obtain ⟨u, hcw⟩ := own_cell (j := k) hown (by omega)
      have hfw := hown.frozenAt k
      have hst := (hown.stored k (.int .i64 x)).1
      rw [fill_set _ _ _ _ (intCells_get hx.out)] at hst
      have hb2 : Below w.heap.size w (wr.setCell ⟨w.heap.size, k, none⟩ (.int .i64 x)) := hbl.setCell (Nat.le_refl _) _
      clear hr hc hown hbl
      go_wp2
      go_roundw
      case rel => exact ⟨k + 1, by omega, by go_num, hst, hb2⟩
      case measure => simp [intOf]; omega
    · have hkn : k = bs.length := by omega
      subst hkn
      go_wp2
      go_ret
      rw [fill_done _ _ _ hlen] at hown
      exact ⟨w.heap.size, rfl, hown, hbl⟩

set_option maxHeartbeats 400000 in
theorem eqIntS_same (w : World) (A A' : Option Addr) (c c' : Nat) (bs : List Int) (hr : Reads w w.heap.size 1 A bs.length (intCells bs)) (hr' : Reads w w.heap.size 1 A' bs.length (intCells bs)) (hl : bs.length ≤ 1099511627776) :
    Calls Try.prog 41 #[.slice A bs.length c, .slice A' bs.length c'] w fun e w' => e = .returned (.bool true) ∧ Below w.heap.size w w' := by
  go_enter Try.func41, Try.ntmps41
  go_wp2
  go_loopw [5] (fun i wr => ∃ k : Nat, k ≤ bs.length ∧ i = .int .i64 k ∧ Below w.heap.size w wr) (fun i _ => bs.length - (intOf i).toNat)
  case atStart => exact ⟨0, Nat.zero_le _, rfl, Below.refl _ _⟩
  case round =>
    obtain ⟨k, hk, rfl, hbl⟩ := hrel
    by_cases hlt : k < bs.length
    · obtain ⟨b, off, x, rfl, hb, hx, hc⟩ := hr.int hlt
      obtain ⟨b', off', x', rfl, hb', hx', hc'⟩ := hr'.int hlt
      have hxx : x' = x := Option.some.inj (hx'.out.symm.trans hx.out)
      subst hxx
      have hrd : wr.cell? ⟨b, off + k, none⟩ = some (.int .i64 x') := (hbl.cell (p := ⟨b, off + k, none⟩) hb).trans hc
      have hrd' : wr.cell? ⟨b', off' + k, none⟩ = some (.int .i64 x') := (hbl.cell (p := ⟨b', off' + k, none⟩) hb').trans hc'
      clear hr hr' hc hc'
      go_wp2
      go_quiet (fail)
      all_goals go_wp2
      go_roundw
      case rel => exact ⟨k + 1, by omega, by go_num, below_drewN hbl _⟩
      case measure => simp [intOf]; omega
    · go_wp2
      go_ret
      exact ⟨rfl, hbl⟩

set_option maxHeartbeats 400000 in
theorem markIntS_any (w : World) (base n c : Nat) (A : Option Addr) (xs : List Value) (q : Int) (k : Nat) (hq : q = (k : Int)) (hk : k + n ≤ 1099511627776) (hown : w.ownsRow base 3 1 (.slice A n c) n xs) (hB : base ≤ w.heap.size) :
    Calls Try.prog 42 #[.slice A n c, .int .i64 q] w fun e w' => e = .returned (.int .i64 ((k + n : Nat) : Int)) ∧ w'.ownsRow base 3 1 (.slice A n c) n (intCells (markInt k n)) ∧ w.grownBy w' (Value.slice A n c).ownBlock := by
  subst hq
  have hlx : xs.length = n := by have := hown.1; omega
  go_enter Try.func42, Try.ntmps42
  go_wp2
  go_loopw [1, 5] (fun q i wr => ∃ j : Nat, j ≤ n ∧ i = .int .i64 j ∧ q = .int .i64 ((k + j : Nat) : Int) ∧ wr.ownsRow base 3 1 (.slice A n c) n (intCells (markInt k j) ++ xs.drop j) ∧ w.grownBy wr (Value.slice A n c).ownBlock)
    (fun _ i _ => n - (intOf i).toNat)
  case atStart => exact ⟨0, Nat.zero_le _, rfl, rfl, by simpa [markInt, intCells] using hown, World.grownBy.refl _ _⟩
  case round =>
    obtain ⟨j, hj, rfl, rfl, hown, hbl⟩ := hrel
    by_cases hlt : j < n
    · obtain ⟨g, cap, hv, hg, hgl⟩ := hown.form (by omega)
      obtain ⟨rfl, rfl⟩ : A = some ⟨g, 0, none⟩ ∧ c = cap := by injection hv with h1 h2 h3; exact ⟨h1, h3⟩
      clear hv
      obtain ⟨u, hcw⟩ := own_cell (j := j) hown (by omega)
      have hfw := hown.frozenAt j
      obtain ⟨hst, hgr⟩ := hown.stored j (.int .i64 ((k : Int) + (j : Int)))
      rw [set_at _ _ _ _ (by simp [intCells, markInt]) (by omega), ← markInt_snoc] at hst
      have hb2 := hbl.trans hgr
      clear hown hbl hgr
      go_wp2
      go_roundw
      case rel => exact ⟨j + 1, by omega, by go_num, by go_num, hst, hb2⟩
      case measure => simp [intOf]; omega
    · have hkn : j = n := by omega
      subst hkn
      go_wp2
      go_ret
      rw [List.drop_of_length_le (by omega), List.append_nil] at hown
      exact ⟨rfl, hown, hbl⟩



end Go.Proofs.Ytkgkommlfceneaa
