/-
  Contracts of bytes.Equal and decoded.
-/
import Derived.Test.YtgpimlmolcjeoaaGetv
import Derived.Test.YtgpimlmolcjeoaaAppend
namespace Go.Proofs.Ytgpimlmolcjeoaa
open Go.RowKit
set_option linter.unusedVariables false
set_option maxRecDepth 100000

theorem own_cap {w : World} {base size n c : Nat} {e : TypeId} {A : Option Addr} {xs : List Value} (h : w.ownsRow base e size (.slice A n c) n xs) : n ≤ c := by
  rcases h.2 with ⟨hv, hz⟩ | ⟨g, cap, cur, hv, _, _, h1, _⟩
  · omega
  · injection hv with _ _ h3
    omega
def AForm (A : Option Addr) : Prop := A = none ∨ ∃ b off, A = some ⟨b, off, none⟩
theorem own_aform {w : World} {base size n c : Nat} {e : TypeId} {A : Option Addr} {xs : List Value} (h : w.ownsRow base e size (.slice A n c) n xs) : AForm A := by
  rcases h.2 with ⟨hv, hz⟩ | ⟨g, cap, cur, hv, _⟩
  · injection hv with h1
    exact .inl h1
  · injection hv with h1
    exact .inr ⟨g, 0, h1⟩
theorem conv_bytes {P : Program} (w : World) (src dst e : TypeId) (hs : P.underlying src = some (.slice e)) (he : P.underlying e = some (.int .u8)) (hd : P.underlying dst = some .string) {A : Option Addr} {bs : List UInt8} {B : Nat}
    (hr : Reads w B 1 A bs.length (byteCells bs)) (hA : AForm A) (c : Nat) : (convert src dst (.slice A bs.length c)).run P w = .ok (.string ⟨bs.toArray⟩) w := by
  rcases hA with rfl | ⟨b, off, rfl⟩
  · have h0 : bs = [] := by
      apply List.eq_nil_of_length_eq_zero
      rcases Nat.eq_zero_or_pos bs.length with h | h
      · exact h
      · obtain ⟨b, off, e, _⟩ := hr.2 h
        cases e
    subst h0
    exact run_convert_bytes_nil (P := P) w src e hs he 0 c dst hd
  · refine conv_text w src dst e hs he hd b off bs.length c bs rfl ?_
    intro j x hj
    obtain ⟨b', off', x', hbb, _, hx', hc⟩ := hr.byte (k := j) (List.getElem?_eq_some_iff.1 hj).1
    obtain ⟨rfl, rfl⟩ : b = b' ∧ off = off' := by injection hbb with h; injection h with h1 h2; exact ⟨h1, h2⟩
    obtain rfl : x' = x := Option.some.inj (hx'.out.symm.trans hj)
    exact hc
theorem bytes_Equal (w : World) {B B' : Nat} (A : Option Addr) (c : Nat) (a : List UInt8) (hr : Reads w B 1 A a.length (byteCells a)) (hA : AForm A) (A' : Option Addr) (c' : Nat) (b : List UInt8) (hr' : Reads w B' 1 A' b.length (byteCells b)) (hA' : AForm A') :
    Calls Try.prog 93 #[.slice A a.length c, .slice A' b.length c'] w fun e w' => e = .returned (.bool (decide (a = b))) ∧ w = w' := by
  have h1 := conv_bytes (P := Try.prog) w 22 9 5 Try.underlying22 Try.underlying5 Try.underlying9 hr hA c
  have h2 := conv_bytes (P := Try.prog) w 22 9 5 Try.underlying22 Try.underlying5 Try.underlying9 hr' hA' c'
  clear hr hr' hA hA'
  go_enter Try.func93, Try.ntmps93
  go_wp2
  go_ret
  exact ⟨ret_bool (by rw [Bool.eq_iff_iff]; simp), rfl⟩
set_option maxHeartbeats 1600000 in
theorem impl_decoded_yes (w : World) {B B' : Nat} (A : Option Addr) (c : Nat) (bs : List UInt8) (hr : Reads w B 1 A bs.length (byteCells bs)) (hA : AForm A) (A' : Option Addr) (c' : Nat) (b : List UInt8) (hr' : Reads w B' 1 A' b.length (byteCells b)) (hA' : AForm A')
    (Al : Option Addr) (n cl : Nat) (k : Int) (hk : inB k 1 64 = true) (hn : (n : Int) = k) (hb : bs = b) :
    Calls Try.prog 64 #[.slice A bs.length c, .int .i64 k, .slice Al n cl, .slice A' b.length c'] w fun e w' => e = .returned (.tuple #[.slice Al n cl, .bool true]) ∧ w = w' := by
  have hbq := bytes_Equal w A c bs hr hA A' c' b hr' hA'
  rw [decide_eq_true hb] at hbq
  subst hn
  clear hr hr' hb
  go_enter Try.func64, Try.ntmps64
  go_wp2_with fail
  refine (within_any _ _ _ _).mono ?_
  rintro e w' ⟨rfl, rfl⟩
  rw [hk]
  go_wp2_with fail
  refine hbq.mono ?_
  rintro e w' ⟨rfl, rfl⟩
  go_wp2
  go_ret2
  exact ⟨rfl, rfl⟩
set_option maxHeartbeats 1600000 in
theorem impl_decoded_no (w : World) {B B' : Nat} (A : Option Addr) (c : Nat) (bs : List UInt8) (hr : Reads w B 1 A bs.length (byteCells bs)) (hA : AForm A) (A' : Option Addr) (c' : Nat) (b : List UInt8) (hr' : Reads w B' 1 A' b.length (byteCells b)) (hA' : AForm A')
    (Al : Option Addr) (n cl : Nat) (k : Int) (hk : inB k 1 64 = true) (hn : ¬ ((n : Int) = k ∧ bs = b)) :
    Calls Try.prog 64 #[.slice A bs.length c, .int .i64 k, .slice Al n cl, .slice A' b.length c'] w fun e w' => e = .returned (.tuple #[.slice none 0 0, .bool false]) ∧ w = w' := by
  have hbq := bytes_Equal w A c bs hr hA A' c' b hr' hA'
  clear hr hr'
  by_cases hnk : (n : Int) = k
  · rw [decide_eq_false (fun h => hn ⟨hnk, h⟩)] at hbq
    subst hnk
    clear hn
    go_enter Try.func64, Try.ntmps64
    go_wp2_with fail
    refine (within_any _ _ _ _).mono ?_
    rintro e w' ⟨rfl, rfl⟩
    rw [hk]
    go_wp2_with fail
    refine hbq.mono ?_
    rintro e w' ⟨rfl, rfl⟩
    go_wp2
    go_ret2
    exact ⟨rfl, rfl⟩
  · have hnb : ((n : Int) != k) = true := by simpa using hnk
    clear hn hbq
    go_enter Try.func64, Try.ntmps64
    go_wp2_with fail
    refine (within_any _ _ _ _).mono ?_
    rintro e w' ⟨rfl, rfl⟩
    rw [hk]
    go_wp2
    go_ret2
    exact ⟨rfl, rfl⟩


end Go.Proofs.Ytgpimlmolcjeoaa
