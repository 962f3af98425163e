/-
  Contracts of PutNums, in the program and in the reference.
-/
import Derived.Test.YtbmgfcoiailolaaPut
import Derived.Test.YtbmgfcoiailolaaGet
namespace Go.Proofs.Ytbmgfcoiailolaa
open Go.RowKit
set_option linter.unusedVariables false
set_option maxRecDepth 100000

theorem own_low {w : World} {base base' : Nat} {e : TypeId} {size : Nat} {v : Value} {n : Nat} {xs : List Value} (h : w.ownsRow base e size v n xs) (hb : base' ≤ base) : w.ownsRow base' e size v n xs :=
  ⟨h.1, h.2.imp id fun ⟨g, cap, cur, h1, h2, h3⟩ => ⟨g, cap, cur, h1, Nat.le_trans hb h2, h3⟩⟩
def putGood (x : Int) : Bool := inB x (-1000000000) 1000000000
def putTo (bs : List UInt8) (xs : List Int) (k : Nat) : List UInt8 := (xs.take k).foldl putNum (putNum bs (xs.length : Int))
def putNums (bs : List UInt8) (xs : List Int) : List UInt8 := if xs.all putGood then putTo bs xs xs.length else bs
theorem putTo_snoc {bs : List UInt8} {xs : List Int} {k : Nat} {x : Int} (h : xs[k]? = some x) : putTo bs xs (k + 1) = putNum (putTo bs xs k) x := by
  unfold putTo
  rw [List.take_add_one, h]
  simp [List.foldl_append]
theorem putFold_len : ∀ (ys : List Int) (L : List UInt8), (ys.foldl putNum L).length ≤ L.length + 5 * ys.length
  | [], L => by simp
  | y :: ys, L => by
    have h1 := putFold_len ys (putNum L y)
    have h2 := putNum_len L y
    simp only [List.foldl_cons, List.length_cons]
    omega
theorem putTo_len (bs : List UInt8) (xs : List Int) (k : Nat) : (putTo bs xs k).length ≤ bs.length + 5 + 5 * xs.length := by
  have h1 := putFold_len (xs.take k) (putNum bs (xs.length : Int))
  have h2 := putNum_len bs (xs.length : Int)
  have h3 : (xs.take k).length ≤ xs.length := by simp; omega
  unfold putTo
  omega
theorem putNums_len (bs : List UInt8) (xs : List Int) : (putNums bs xs).length ≤ bs.length + 5 + 5 * xs.length := by
  unfold putNums
  split
  · exact putTo_len _ _ _
  · omega
theorem putNums_bad {bs : List UInt8} {xs : List Int} {k : Nat} {q : Int} (h : xs[k]? = some q) (hq : inB q (-1000000000) 1000000000 = false) : putNums bs xs = bs := by
  unfold putNums
  rw [all_false (p := putGood) h hq]
  rfl
theorem putNums_end {bs : List UInt8} {xs : List Int} (h : AllTo putGood xs xs.length) : putNums bs xs = putTo bs xs xs.length := by
  unfold putNums
  rw [h.all]
  rfl
set_option maxHeartbeats 1600000 in
theorem impl_PutNums (w : World) (A : Option Addr) (c : Nat) (bs : List UInt8) (hr : Reads w w.heap.size 1 A bs.length (byteCells bs)) (hA : A = none → bs.length = 0 ∧ c = 0) (hl : bs.length ≤ 900000000000)
    (A0 : Option Addr) (c0 : Nat) (xs : List Int) (hr0 : Reads w w.heap.size 1 A0 xs.length (intCells xs)) (hl0 : xs.length ≤ 1000000000) (hi0 : ∀ x ∈ xs, I64 x) :
    Calls Try.prog 26 #[.slice A bs.length c, .slice A0 xs.length c0] w fun e w' => ∃ A' c', e = .returned (.slice A' (putNums bs xs).length c') ∧
      w'.ownsRow w.heap.size 5 1 (.slice A' (putNums bs xs).length c') (putNums bs xs).length (byteCells (putNums bs xs)) ∧ Below w.heap.size w w' := by
  obtain ⟨i0, hi1, hz0, hz1, hz2⟩ := info_parts info_Byte
  clear hi0
  go_enter Try.func26, Try.ntmps26
  go_wp2_with fail
  refine (impl_cloneBytes _ _ _ _ hr hA (by omega)).mono ?_
  rintro e w1 ⟨A1, c1, rfl, hown1, hbl1⟩
  clear hr hA
  have hsz1 := hbl1.size
  go_wp2_with fail
  go_loopw [18] (fun i wr => ∃ (k : Nat), k ≤ xs.length ∧ i = .int .i64 k ∧ AllTo putGood xs k ∧ Below w1.heap.size w1 wr) (fun i _ => xs.length - (intOf i).toNat)
  case atStart => exact ⟨0, Nat.zero_le _, rfl, AllTo.zero _ _, Below.refl _ _⟩
  case round =>
    obtain ⟨k, hk, rfl, hall, hbl⟩ := hrel
    have hbl2 := hbl1.trans (hbl.mono hsz1)
    by_cases hlt : k < xs.length
    · obtain ⟨p, off, x, rfl, hb, hx, hc⟩ := hr0.int hlt
      have hd : wr.cell? ⟨p, off + k, none⟩ = some (.int .i64 x) := (hbl2.cell (p := ⟨p, off + k, none⟩) hb).trans hc
      clear hr0 hc
      cases hg : inB x (-1000000000) 1000000000
      · have hbad := Lib.hid (putNums_bad (bs := bs) hx.out hg)
        replace hown1 := own_step hown1 hbl
        clear hall
        go_wp2_with (go_at_call 46; refine (isNum_any _ _).mono ?_; rintro e w' ⟨rfl, rfl⟩; rw [hg])
        go_ret
        rw [hbad.out]
        exact ⟨_, _, rfl, hown1, hbl2⟩
      · have hall2 := hall.succ hx.out hg
        clear hall hbl2 hown1
        go_wp2_with (go_at_call 46; refine (isNum_any _ _).mono ?_; rintro e w' ⟨rfl, rfl⟩; rw [hg])
        go_roundw
        case rel => exact ⟨k + 1, by omega, by go_num, hall2, hbl⟩
        case measure => simp [intOf]; omega
    · have hkn : k = xs.length := by omega
      subst hkn
      have hend := Lib.hid (putNums_end (bs := bs) hall)
      replace hown1 := own_step hown1 hbl
      have hsz2 := hbl2.size
      clear hall hbl hbl1 hsz1 hlt hk
      go_wp2_with fail
      refine (impl_PutNum _ _ _ _ (own_reads hown1) (own_nil hown1) (by omega) _).mono ?_
      rintro e w3 ⟨A3, c3, rfl, hown3, hbl3⟩
      replace hown3 := own_low hown3 hsz2
      replace hbl3 := hbl2.trans (hbl3.mono hsz2)
      clear hown1 hbl2 hsz2
      go_wp2_with fail
      go_loopw [5, 33] (fun o i wr => ∃ (k : Nat) (A' : Option Addr) (c' : Nat), k ≤ xs.length ∧ i = .int .i64 k ∧ o = .slice A' (putTo bs xs k).length c' ∧ wr.ownsRow w.heap.size 5 1 (.slice A' (putTo bs xs k).length c') (putTo bs xs k).length (byteCells (putTo bs xs k)) ∧ Below w.heap.size w wr) (fun _ i _ => xs.length - (intOf i).toNat)
      case atStart => exact ⟨0, A3, c3, Nat.zero_le _, rfl, rfl, hown3, hbl3⟩
      case round =>
        clear hown3 hbl3
        obtain ⟨k, A', c', hk, rfl, rfl, hown, hbl⟩ := hrel
        have hsz := hbl.size
        by_cases hlt : k < xs.length
        · obtain ⟨p, off, x, rfl, hb, hx, hc⟩ := hr0.int hlt
          have hd : wr.cell? ⟨p, off + k, none⟩ = some (.int .i64 x) := (hbl.cell (p := ⟨p, off + k, none⟩) hb).trans hc
          have hln := putTo_len bs xs k
          have hs := Lib.hid (putTo_snoc (bs := bs) hx.out)
          clear hr0 hc
          go_wp2_with fail
          refine (impl_PutNum _ _ _ _ (own_reads hown) (own_nil hown) (by omega) _).mono ?_
          rintro e w5 ⟨A5, c5, rfl, hown5, hbl5⟩
          replace hown5 := own_low hown5 hsz
          rw [← hs.out] at hown5 ⊢
          replace hbl5 := hbl.trans (hbl5.mono hsz)
          clear hs hln hown hbl hd
          go_wp2_with fail
          go_roundw
          case rel => exact ⟨k + 1, A5, c5, by omega, by go_num, rfl, hown5, hbl5⟩
          case measure => simp [intOf]; omega
        · have hkn : k = xs.length := by omega
          subst hkn
          go_wp2_with fail
          go_ret
          rw [hend.out]
          exact ⟨_, _, rfl, hown, hbl⟩
set_option maxHeartbeats 1600000 in
theorem spec_PutNums (w : World) (A : Option Addr) (c : Nat) (bs : List UInt8) (hr : Reads w w.heap.size 1 A bs.length (byteCells bs)) (hA : A = none → bs.length = 0 ∧ c = 0) (hl : bs.length ≤ 900000000000)
    (A0 : Option Addr) (c0 : Nat) (xs : List Int) (hr0 : Reads w w.heap.size 1 A0 xs.length (intCells xs)) (hl0 : xs.length ≤ 1000000000) (hi0 : ∀ x ∈ xs, I64 x) :
    Calls Try.prog 25 #[.slice A bs.length c, .slice A0 xs.length c0] w fun e w' => ∃ A' c', e = .returned (.slice A' (putNums bs xs).length c') ∧
      w'.ownsRow w.heap.size 5 1 (.slice A' (putNums bs xs).length c') (putNums bs xs).length (byteCells (putNums bs xs)) ∧ Below w.heap.size w w' := by
  obtain ⟨i0, hi1, hz0, hz1, hz2⟩ := info_parts info_Byte
  clear hi0
  go_enter Try.func25, Try.ntmps25
  go_wp2_with fail
  refine (spec_PutNum _ _ _ _ hr hA (by omega) _).mono ?_
  rintro e w1 ⟨A1, c1, rfl, hown1, hbl1⟩
  go_wp2_with fail
  go_loopw [5, 6] (fun o i wr => ∃ (k : Nat) (A' : Option Addr) (c' : Nat), k ≤ xs.length ∧ i = .int .i64 k ∧ o = .slice A' (putTo bs xs k).length c' ∧ wr.ownsRow w.heap.size 5 1 (.slice A' (putTo bs xs k).length c') (putTo bs xs k).length (byteCells (putTo bs xs k)) ∧ AllTo putGood xs k ∧ Below w.heap.size w wr) (fun _ i _ => xs.length - (intOf i).toNat)
  case atStart => exact ⟨0, A1, c1, Nat.zero_le _, rfl, rfl, hown1, AllTo.zero _ _, hbl1⟩
  case round =>
    clear hown1 hbl1
    obtain ⟨k, A', c', hk, rfl, rfl, hown, hall, hbl⟩ := hrel
    have hsz := hbl.size
    by_cases hlt : k < xs.length
    · obtain ⟨p, off, x, rfl, hb, hx, hc⟩ := hr0.int hlt
      have hd : wr.cell? ⟨p, off + k, none⟩ = some (.int .i64 x) := (hbl.cell (p := ⟨p, off + k, none⟩) hb).trans hc
      cases hg : inB x (-1000000000) 1000000000
      · have hbad := Lib.hid (putNums_bad (bs := bs) hx.out hg)
        have hr2 := hr.below hbl (Nat.le_refl _)
        clear hall hr0 hc hown hr
        go_wp2_with fail
        refine (l1Right_any _ _).mono ?_
        rintro e w' ⟨rfl, rfl⟩
        rw [hg]
        go_wp2_with (at_builtin; refine append_slice rfl (.tmp 23) (.tmp 24) 22 rfl w.heap.size 5 i0 _ 1 1 Try.underlying22 hi1 hz0 hz1 hz2 rfl (by omega) (by omega) (some ⟨_, 0, none⟩) 0 0 _ rfl (own_empty hsz) w.heap.size bs.length c A _ rfl hA (hr2.alloc hsz _) (byteCells_one' _) (by simp; omega) (by omega) (by omega) ?_; intro A3 c3 w3 hown hbl3)
        rw [Nat.zero_add, List.nil_append] at hown
        have hbl4 := (hbl.alloc hsz _).trans hbl3
        clear hbl3 hbl hd
        go_ret
        rw [hbad.out]
        exact ⟨A3, c3, by simp, hown, hbl4⟩
      have hall2 := hall.succ hx.out hg
      clear hall
      have hln := putTo_len bs xs k
      have hs := Lib.hid (putTo_snoc (bs := bs) hx.out)
      clear hr0 hc
      go_wp2_with fail
      refine (l1Right_any _ _).mono ?_
      rintro e w' ⟨rfl, rfl⟩
      rw [hg]
      go_wp2_with fail
      refine (spec_PutNum _ _ _ _ (own_reads hown) (own_nil hown) (by omega) _).mono ?_
      rintro e w5 ⟨A5, c5, rfl, hown5, hbl5⟩
      replace hown5 := own_low hown5 hsz
      rw [← hs.out] at hown5 ⊢
      replace hbl5 := hbl.trans (hbl5.mono hsz)
      clear hs hln hown hbl hd
      go_wp2_with fail
      go_roundw
      case rel => exact ⟨k + 1, A5, c5, by omega, by go_num, rfl, hown5, hall2, hbl5⟩
      case measure => simp [intOf]; omega
    · have hkn : k = xs.length := by omega
      subst hkn
      have hend := Lib.hid (putNums_end (bs := bs) hall)
      clear hall
      go_wp2_with fail
      go_ret
      rw [hend.out]
      exact ⟨_, _, rfl, hown, hbl⟩

end Go.Proofs.Ytbmgfcoiailolaa
