/-
  Contracts of EncPlain and EncRuns, in the program and in the reference.
-/
import Derived.Test.YtgpimlmolcjeoaaPutv
import Derived.Test.YtgpimlmolcjeoaaType
import Derived.Test.YtgpimlmolcjeoaaRuns
namespace Go.Proofs.Ytgpimlmolcjeoaa
open Go.RowKit
set_option linter.unusedVariables false
set_option maxRecDepth 100000

theorem typeOf_le {vs : List V} (h : ¬ typeOf vs = 0) : vs.length ≤ 64 := Classical.byContradiction fun hn => h (typeOf_len fun hh => hn hh.2)
def encTo (vs : List V) (k : Nat) : List UInt8 := (vs.take k).foldl putVal []
def encPlain (vs : List V) : List UInt8 := if typeOf vs = 0 then [] else vs.foldl putVal []
theorem encTo_zero (vs : List V) : encTo vs 0 = [] := rfl
theorem encTo_snoc {vs : List V} {k : Nat} {x : V} (h : vs[k]? = some x) : encTo vs (k + 1) = putVal (encTo vs k) x := by
  unfold encTo
  rw [List.take_add_one, h]
  simp [List.foldl_append]
theorem foldPut_len (l : List V) (b : List UInt8) : (l.foldl putVal b).length ≤ b.length + 7 * l.length := by
  induction l generalizing b with
  | nil => simp
  | cons x l ih =>
    have h1 := ih (putVal b x)
    have h2 := putVal_len b x
    simp only [List.foldl_cons, List.length_cons]
    omega
theorem encTo_len (vs : List V) (k : Nat) (hk : k ≤ 64) : (encTo vs k).length ≤ 448 := by
  have := foldPut_len (vs.take k) []
  unfold encTo
  simp at this
  omega
theorem encPlain_none {vs : List V} (h : typeOf vs = 0) : encPlain vs = [] := by simp [encPlain, h]
theorem encPlain_some {vs : List V} (h : ¬ typeOf vs = 0) : encPlain vs = encTo vs vs.length := by
  unfold encPlain encTo
  rw [if_neg h, List.take_of_length_le (Nat.le_refl _)]
theorem encPlain_len (vs : List V) : (encPlain vs).length ≤ 448 := by
  by_cases h : typeOf vs = 0
  · rw [encPlain_none h]; simp
  · rw [encPlain_some h]; exact encTo_len _ _ (typeOf_le h)

set_option maxHeartbeats 1600000 in
theorem impl_EncPlain (w : World) (A : Option Addr) (c : Nat) (vs : List V) (hr : Reads w w.heap.size 3 A vs.length (valCells vs)) (hl : vs.length ≤ 1099511627776) (hi : ∀ x ∈ vs, x.ok) :
    Calls Try.prog 36 #[.slice A vs.length c] w fun e w' => ∃ A' c', e = .returned (.slice A' (encPlain vs).length c') ∧ w'.ownsRow w.heap.size 5 1 (.slice A' (encPlain vs).length c') (encPlain vs).length (byteCells (encPlain vs)) ∧ Below w.heap.size w w' := by
  go_enter Try.func36, Try.ntmps36
  go_wp2_with fail
  refine (impl_TypeOf _ _ _ _ ((hr.alloc (Nat.le_refl _) _).more (by simp)) hl hi).mono ?_
  rintro e w1 ⟨rfl, hb1⟩
  have hbl1 := (Below.alloc0 (Below.refl w.heap.size w) _).trans (hb1.mono (by simp))
  have hown1 : w1.ownsRow w.heap.size 5 1 (.slice (some ⟨w.heap.size, 0, none⟩) 0 0) 0 [] := own_step (own_empty (Nat.le_refl _)) hb1
  clear hb1
  by_cases ht : typeOf vs = 0
  · have htb : (typeOf vs == 0) = true := by simp [ht]
    have ho := Lib.hid (encPlain_none ht)
    clear ht
    go_wp2_with fail
    go_ret
    rw [ho.out]
    exact ⟨_, _, rfl, hown1, hbl1⟩
  have htb : (typeOf vs == 0) = false := by simp [ht]
  have ho := Lib.hid (encPlain_some ht)
  have h64 := typeOf_le ht
  clear ht
  go_wp2_with fail
  go_loopw [3, 13] (fun o i wr => ∃ (k : Nat) (A' : Option Addr) (c' : Nat), k ≤ vs.length ∧ i = .int .i64 k ∧ o = .slice A' (encTo vs k).length c' ∧ wr.ownsRow w.heap.size 5 1 (.slice A' (encTo vs k).length c') (encTo vs k).length (byteCells (encTo vs k)) ∧ Below w.heap.size w wr) (fun _ i _ => vs.length - (intOf i).toNat)
  case atStart => exact ⟨0, _, _, Nat.zero_le _, rfl, rfl, hown1, hbl1⟩
  case round =>
    clear hown1 hbl1
    obtain ⟨k, A', c', hk, rfl, rfl, hown, hbl⟩ := hrel
    have hsz := hbl.size
    by_cases hlt : k < vs.length
    · obtain ⟨p, off, x, rfl, hb, hx, hc0, hc1, hc2⟩ := hr.v hlt
      have hxo := hi x (List.mem_of_getElem? hx.out)
      have hd0 : wr.cell? ⟨p, off + k * 3, none⟩ = some (.int .i64 x.ty) := (hbl.cell (p := ⟨p, off + k * 3, none⟩) hb).trans hc0
      have hd1 : wr.cell? ⟨p, off + k * 3 + 1, none⟩ = some (.int .i64 x.n) := (hbl.cell (p := ⟨p, off + k * 3 + 1, none⟩) hb).trans hc1
      have hd2 : wr.cell? ⟨p, off + k * 3 + 2, none⟩ = some (.string x.s) := (hbl.cell (p := ⟨p, off + k * 3 + 2, none⟩) hb).trans hc2
      have hs := Lib.hid (encTo_snoc hx.out)
      have hln := encTo_len vs k (by omega)
      clear hr hc0 hc1 hc2 hi htb
      go_wp2_with fail
      have hownW := hown.alloc (.cells #[.int .i64 x.ty, .int .i64 x.n, .string x.s] 37)
      have hblW := hbl.alloc hsz (.cells #[.int .i64 x.ty, .int .i64 x.n, .string x.s] 37)
      refine (impl_PutVal _ _ _ _ (own_reads hownW) (own_nil hownW) (by omega) x hxo).mono ?_
      rintro e w5 ⟨A5, c5, rfl, hown5, hbl5⟩
      replace hown5 := own_lower hown5 hblW.size
      replace hbl5 := hblW.trans (hbl5.mono hblW.size)
      rw [← hs.out] at hown5 ⊢
      clear hs hln hown hbl hd0 hd1 hd2 hownW hblW
      go_wp2_with fail
      go_roundw
      case rel => exact ⟨k + 1, A5, c5, by omega, by go_num, rfl, hown5, hbl5⟩
      case measure => simp [intOf]; omega
    · have hkn : k = vs.length := by omega
      subst hkn
      go_wp2_with fail
      go_ret
      rw [ho.out]
      exact ⟨_, _, rfl, hown, hbl⟩

set_option maxHeartbeats 1600000 in
theorem spec_EncPlain (w : World) (A : Option Addr) (c : Nat) (vs : List V) (hr : Reads w w.heap.size 3 A vs.length (valCells vs)) (hl : vs.length ≤ 1099511627776) (hi : ∀ x ∈ vs, x.ok) :
    Calls Try.prog 70 #[.slice A vs.length c] w fun e w' => ∃ A' c', e = .returned (.slice A' (encPlain vs).length c') ∧ w'.ownsRow w.heap.size 5 1 (.slice A' (encPlain vs).length c') (encPlain vs).length (byteCells (encPlain vs)) ∧ Below w.heap.size w w' := by
  go_enter Try.func70, Try.ntmps70
  go_wp2_with fail
  refine (spec_TypeOf _ _ _ _ ((hr.alloc (Nat.le_refl _) _).more (by simp)) hl hi).mono ?_
  rintro e w1 ⟨rfl, hb1⟩
  have hbl1 := (Below.alloc0 (Below.refl w.heap.size w) _).trans (hb1.mono (by simp))
  have hown1 : w1.ownsRow w.heap.size 5 1 (.slice (some ⟨w.heap.size, 0, none⟩) 0 0) 0 [] := own_step (own_empty (Nat.le_refl _)) hb1
  clear hb1
  by_cases ht : typeOf vs = 0
  · have htb : (typeOf vs == 0) = true := by simp [ht]
    have ho := Lib.hid (encPlain_none ht)
    clear ht
    go_wp2_with fail
    go_ret
    rw [ho.out]
    exact ⟨_, _, rfl, hown1, hbl1⟩
  have htb : (typeOf vs == 0) = false := by simp [ht]
  have ho := Lib.hid (encPlain_some ht)
  have h64 := typeOf_le ht
  clear ht
  go_wp2_with fail
  go_loopw [3, 4] (fun o i wr => ∃ (k : Nat) (A' : Option Addr) (c' : Nat), k ≤ vs.length ∧ i = .int .i64 k ∧ o = .slice A' (encTo vs k).length c' ∧ wr.ownsRow w.heap.size 5 1 (.slice A' (encTo vs k).length c') (encTo vs k).length (byteCells (encTo vs k)) ∧ Below w.heap.size w wr) (fun _ i _ => vs.length - (intOf i).toNat)
  case atStart => exact ⟨0, _, _, Nat.zero_le _, rfl, rfl, hown1, hbl1⟩
  case round =>
    clear hown1 hbl1
    obtain ⟨k, A', c', hk, rfl, rfl, hown, hbl⟩ := hrel
    have hsz := hbl.size
    by_cases hlt : k < vs.length
    · obtain ⟨p, off, x, rfl, hb, hx, hc0, hc1, hc2⟩ := hr.v hlt
      have hxo := hi x (List.mem_of_getElem? hx.out)
      have hd0 : wr.cell? ⟨p, off + k * 3, none⟩ = some (.int .i64 x.ty) := (hbl.cell (p := ⟨p, off + k * 3, none⟩) hb).trans hc0
      have hd1 : wr.cell? ⟨p, off + k * 3 + 1, none⟩ = some (.int .i64 x.n) := (hbl.cell (p := ⟨p, off + k * 3 + 1, none⟩) hb).trans hc1
      have hd2 : wr.cell? ⟨p, off + k * 3 + 2, none⟩ = some (.string x.s) := (hbl.cell (p := ⟨p, off + k * 3 + 2, none⟩) hb).trans hc2
      have hs := Lib.hid (encTo_snoc hx.out)
      have hln := encTo_len vs k (by omega)
      clear hr hc0 hc1 hc2 hi htb
      go_wp2_with fail
      refine (spec_PutVal _ _ _ _ (own_reads hown) (own_nil hown) (by omega) x hxo).mono ?_
      rintro e w5 ⟨A5, c5, rfl, hown5, hbl5⟩
      replace hown5 := own_lower hown5 hsz
      replace hbl5 := hbl.trans (hbl5.mono hsz)
      rw [← hs.out] at hown5 ⊢
      clear hs hln hown hbl hd0 hd1 hd2
      go_wp2_with fail
      go_roundw
      case rel => exact ⟨k + 1, A5, c5, by omega, by go_num, rfl, hown5, hbl5⟩
      case measure => simp [intOf]; omega
    · have hkn : k = vs.length := by omega
      subst hkn
      go_wp2_with fail
      go_ret
      rw [ho.out]
      exact ⟨_, _, rfl, hown, hbl⟩

end Go.Proofs.Ytgpimlmolcjeoaa
