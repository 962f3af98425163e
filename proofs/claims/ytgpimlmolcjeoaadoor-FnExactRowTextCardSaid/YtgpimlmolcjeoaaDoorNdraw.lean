/-
  What the reference draws: DrawNumText, DrawParseNum.
-/
import Derived.Test.YtgpimlmolcjeoaaDoorDraw
import Derived.Test.YtgpimlmolcjeoaaDoorVdraw
import Derived.Test.YtgpimlmolcjeoaaDoorNtext
namespace Go.Proofs.YtgpimlmolcjeoaaDoor
open Go.RowKit
set_option linter.unusedVariables false
set_option maxRecDepth 100000

theorem numText_size {n : Int} (hn : I64 n) : (numText n).size ≤ 21 := by
  have := Lib.itoa_length_le n hn.1 hn.2
  simpa [numText, ByteArray.size] using this
theorem DrawNumText_any (w : World) (A : Option Addr) (c : Nat) (cs : List UInt8) (hr : Reads w w.heap.size 1 A cs.length (byteCells cs)) (hl : cs.length ≤ 1099511627776) :
    Calls Tryd.prog 24 #[.slice A cs.length c] w fun e w' => ∃ n : Int, e = .returned (.int .i64 n) ∧ I64 n ∧ Below w.heap.size w w' := by
  go_enter Tryd.func24, Tryd.ntmps24
  go_wp2_with fail
  refine (l1New_any _ _ _ _ hr hl).mono ?_
  rintro e w1 ⟨p, rfl, hp, hc1, hb1⟩
  go_wp2_with fail
  refine (l1One_any _ p hc1).mono ?_
  rintro e w2 ⟨n, rfl, hn, hc2, hg2⟩
  have hb2 := hb1.grown hg2 hb1.size (fun q hq => by have := Option.some.inj hq; omega)
  go_wp2
  go_ret
  exact ⟨n, rfl, hn, hb2⟩
theorem l1Str_lit2 (w : World) (p : Nat) (hc : Cur w p) (t : TypeId) (n : Nat) (xs : List ByteArray) (hl : xs.length = n) (h1 : 1 ≤ n) (h2 : n ≤ 1099511627776) (hI : ∀ x ∈ xs, x.size ≤ 1000) :
    Calls Tryd.prog 51 #[.pointer (some ⟨p, 0, none⟩), .slice (some ⟨w.heap.size, 0, none⟩) n n] (w.alloc (.cells (strCells xs).toArray t)) fun e w' => ∃ x : ByteArray, e = .returned (.string x) ∧ x.size ≤ 1000 ∧ Cur w' p ∧ w.grownBy w' (some p) := by
  refine (l1Str_any _ p (hc.alloc _) w.heap.size n n xs hl h1 h2 (Nat.ne_of_gt hc.lt) (lit_strs w t xs)).mono ?_
  rintro e w1 ⟨x, rfl, hm, hc1, hg1⟩
  exact ⟨x, rfl, hI x hm, hc1, (grown_alloc w _ _).trans hg1⟩
def dpnS : List ByteArray := [⟨#[]⟩, ⟨#[48]⟩, ⟨#[48, 48]⟩, ⟨#[45, 48]⟩, ⟨#[45]⟩, ⟨#[48, 49]⟩, ⟨#[55]⟩, ⟨#[45, 55]⟩, ⟨#[49, 48, 48, 48, 48, 48, 48, 48, 48, 48]⟩, ⟨#[49, 48, 48, 48, 48, 48, 48, 48, 48, 49]⟩, ⟨#[45, 49, 48, 48, 48, 48, 48, 48, 48, 48, 48]⟩, ⟨#[57, 57, 57, 57, 57, 57, 57, 57, 57, 57, 57]⟩, ⟨#[49, 120]⟩, ⟨#[32, 49]⟩, ⟨#[43, 49]⟩, ⟨#[45, 45, 49]⟩]
theorem dpnS_size : ∀ x ∈ dpnS, x.size ≤ 1000 := by
  intro x hx
  simp only [dpnS, List.mem_cons, List.not_mem_nil, or_false] at hx
  rcases hx with rfl | rfl | rfl | rfl | rfl | rfl | rfl | rfl | rfl | rfl | rfl | rfl | rfl | rfl | rfl | rfl <;> decide
set_option maxHeartbeats 1600000 in
theorem DrawParseNum_any (w : World) (A : Option Addr) (c : Nat) (cs : List UInt8) (hr : Reads w w.heap.size 1 A cs.length (byteCells cs)) (hl : cs.length ≤ 1099511627776) :
    Calls Tryd.prog 25 #[.slice A cs.length c] w fun e w' => ∃ s : ByteArray, e = .returned (.string s) ∧ s.size ≤ 1000 ∧ Below w.heap.size w w' := by
  go_enter Tryd.func25, Tryd.ntmps25
  go_wp2_with fail
  refine (l1New_any _ _ _ _ hr hl).mono ?_
  rintro e w1 ⟨p, rfl, hp, hc1, hb1⟩
  go_wp2_with fail
  refine (l1Once_any _ p hc1 2 (by omega) (by omega)).mono ?_
  rintro e w2 ⟨b, rfl, hc2, hg2⟩
  have hb2 := hb1.grown hg2 hb1.size (fun q hq => by have := Option.some.inj hq; omega)
  clear hb1 hg2 hc1
  cases b
  · go_wp2_with fail
    refine (l1Num_any _ p hc2).mono ?_
    rintro e w3 ⟨x, rfl, hx, hc3, hg3⟩
    have hb3 := hb2.grown hg3 hb2.size (fun q hq => by have := Option.some.inj hq; omega)
    clear hb2 hg3 hc2 hc3
    go_wp2_with fail
    refine (spec_NumText _ x hx).mono ?_
    rintro e w4 ⟨rfl, hb4⟩
    have hb5 := hb3.trans (hb4.mono hb3.size)
    go_wp2
    go_ret
    exact ⟨_, rfl, Nat.le_trans (numText_size hx) (by omega), hb5⟩
  · go_wp2_with fail
    refine (l1Str_lit2 _ p hc2 9 16 dpnS rfl (by omega) (by omega) dpnS_size).mono ?_
    rintro e w3 ⟨x, rfl, hx, hc3, hg3⟩
    have hb3 := hb2.grown hg3 hb2.size (fun q hq => by have := Option.some.inj hq; omega)
    go_wp2
    go_ret
    exact ⟨x, rfl, hx, hb3⟩
end Go.Proofs.YtgpimlmolcjeoaaDoor
