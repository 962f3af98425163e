/-
  Contracts of DecRuns, in the program and in the reference.
-/
import Derived.Test.YtgpimlmolcjeoaaDecd
import Derived.Test.YtgpimlmolcjeoaaGvs
import Derived.Test.YtgpimlmolcjeoaaEncr
import Derived.Test.YtgpimlmolcjeoaaSpread
namespace Go.Proofs.Ytgpimlmolcjeoaa
open Go.RowKit
set_option linter.unusedVariables false
set_option maxRecDepth 100000

def drAcc (bs : List UInt8) (ty : Int) : Nat → List (V × Int) → Nat → Option (List (V × Int))
  | 0, R, _ => some R
  | f + 1, R, q => match getNum bs (q : Int) with
    | none => none
    | some (m, q1) => match getVal bs (q1 : Int) ty with | none => none | some (x, q2) => drAcc bs ty f (R ++ [(x, m)]) q2
theorem dr_fail1 {P : Option (List (V × Int))} {bs : List UInt8} {ty : Int} {K j : Nat} {R : List (V × Int)} {q : Nat} (h : P = drAcc bs ty (K - j) R q) (hj : j < K) (hg : getNum bs (q : Int) = none) : P = none := by
  rw [h, show K - j = (K - (j + 1)) + 1 by omega]
  simp only [drAcc, hg]
theorem dr_fail2 {P : Option (List (V × Int))} {bs : List UInt8} {ty : Int} {K j : Nat} {R : List (V × Int)} {q q1 : Nat} {m : Int} (h : P = drAcc bs ty (K - j) R q) (hj : j < K) (hg : getNum bs (q : Int) = some (m, q1)) (hv : getVal bs (q1 : Int) ty = none) : P = none := by
  rw [h, show K - j = (K - (j + 1)) + 1 by omega]
  simp only [drAcc, hg, hv]
theorem dr_more {P : Option (List (V × Int))} {bs : List UInt8} {ty : Int} {K j : Nat} {R : List (V × Int)} {q q1 q2 : Nat} {m : Int} {x : V} (h : P = drAcc bs ty (K - j) R q) (hj : j < K) (hg : getNum bs (q : Int) = some (m, q1)) (hv : getVal bs (q1 : Int) ty = some (x, q2)) : P = drAcc bs ty (K - (j + 1)) (R ++ [(x, m)]) q2 := by
  rw [h, show K - j = (K - (j + 1)) + 1 by omega]
  simp only [drAcc, hg, hv]
theorem dr_end {P : Option (List (V × Int))} {bs : List UInt8} {ty : Int} {K j : Nat} {R : List (V × Int)} {q : Nat} (h : P = drAcc bs ty (K - j) R q) (hj : ¬ j < K) : P = some R := by
  rw [h, show K - j = 0 by omega]
  rfl
def decRuns (bs : List UInt8) (ty k : Int) : Option (List V) := match getNum bs 0 with
  | none => none
  | some (n, p) => if inB n 1 64 = true ∧ inB k 1 64 = true then (match drAcc bs ty n.toNat [] p with | none => none | some R => if ((spreadOf R).length : Int) = k ∧ bs = encRuns (spreadOf R) then some (spreadOf R) else none) else none
def drL (bs : List UInt8) (ty k : Int) : List V := (decRuns bs ty k).getD []
def drOk (bs : List UInt8) (ty k : Int) : Bool := (decRuns bs ty k).isSome
theorem dr_none {bs : List UInt8} {ty k : Int} (h : decRuns bs ty k = none) : drL bs ty k = [] ∧ drOk bs ty k = false := by simp [drL, drOk, h]
theorem dr_some {bs : List UInt8} {ty k : Int} {l : List V} (h : decRuns bs ty k = some l) : drL bs ty k = l ∧ drOk bs ty k = true := by simp [drL, drOk, h]
theorem dr_nonum {bs : List UInt8} {ty k : Int} (h : getNum bs 0 = none) : decRuns bs ty k = none := by simp [decRuns, h]
theorem dr_widen {bs : List UInt8} {ty k n : Int} {p : Nat} (h : getNum bs 0 = some (n, p)) (hn : inB n 1 64 = false) : decRuns bs ty k = none := by simp [decRuns, h, hn]
theorem dr_widek {bs : List UInt8} {ty k n : Int} {p : Nat} (h : getNum bs 0 = some (n, p)) (hk : inB k 1 64 = false) : decRuns bs ty k = none := by simp [decRuns, h, hk]
theorem dr_acc {bs : List UInt8} {ty k : Int} {N p : Nat} (h : getNum bs 0 = some ((N : Int), p)) (hn : inB (N : Int) 1 64 = true) (hd : drAcc bs ty N [] p = none) : decRuns bs ty k = none := by
  simp only [decRuns, h, Int.toNat_natCast, hd]
  split <;> rfl
theorem dr_yes {bs : List UInt8} {ty k : Int} {N p : Nat} {R : List (V × Int)} (h : getNum bs 0 = some ((N : Int), p)) (hn : inB (N : Int) 1 64 = true) (hk : inB k 1 64 = true) (hd : drAcc bs ty N [] p = some R) (h1 : ((spreadOf R).length : Int) = k) (h2 : bs = encRuns (spreadOf R)) : decRuns bs ty k = some (spreadOf R) := by
  simp only [decRuns, h, Int.toNat_natCast, hd]
  rw [if_pos ⟨hn, hk⟩, if_pos ⟨h1, h2⟩]
theorem dr_no {bs : List UInt8} {ty k : Int} {N p : Nat} {R : List (V × Int)} (h : getNum bs 0 = some ((N : Int), p)) (hd : drAcc bs ty N [] p = some R) (h1 : ¬ (((spreadOf R).length : Int) = k ∧ bs = encRuns (spreadOf R))) : decRuns bs ty k = none := by
  simp only [decRuns, h, Int.toNat_natCast, hd]
  split
  · first | rfl | rw [if_neg h1]
  · rfl
theorem spread_ok {rs : List (V × Int)} (h : ∀ r ∈ rs, runOk r) : ∀ x ∈ spreadOf rs, x.ok := by
  have key : ∀ (l : List (V × Int)) (a : Option (List V)), (∀ r ∈ l, runOk r) → (∀ x ∈ a.getD [], x.ok) → ∀ x ∈ (l.foldl spreadStep a).getD [], x.ok := by
    intro l
    induction l with
    | nil => intro a _ ha; simpa using ha
    | cons r l ih =>
      intro a hl ha
      rw [List.foldl_cons]
      refine ih _ (fun y hy => hl y (by simp [hy])) ?_
      intro x hx
      cases a with
      | none => simp [spreadStep] at hx
      | some out =>
        simp only [spreadStep, Option.bind_some] at hx
        split at hx
        · simp only [Option.getD_some] at hx
          rcases List.mem_append.1 hx with h1 | h1
          · exact ha x (by simpa using h1)
          · rw [List.eq_of_mem_replicate h1]
            exact (hl r (by simp)).1
        · simp at hx
  exact key rs (some []) h (by simp)
theorem inB_I64 {m : Int} (h : inB m (-1000000000) 1000000000 = true) : I64 m := by
  have := inB_iff.1 h
  exact ⟨by omega, by omega⟩
theorem runOk_snoc {R : List (V × Int)} {x : V} {m : Int} (h : ∀ r ∈ R, runOk r) (hx : x.ok) (hm : I64 m) : ∀ r ∈ R ++ [(x, m)], runOk r := by
  intro r hr
  rcases List.mem_append.1 hr with h1 | h1
  · exact h r h1
  · simp at h1
    subst h1
    exact ⟨hx, hm⟩
set_option maxHeartbeats 1600000 in
theorem impl_decoded_wide (w : World) (A : Option Addr) (n0 c : Nat) (A' : Option Addr) (n1 c' : Nat) (Al : Option Addr) (n cl : Nat) (k : Int) (hk : inB k 1 64 = false) :
    Calls Try.prog 64 #[.slice A n0 c, .int .i64 k, .slice Al n cl, .slice A' n1 c'] w fun e w' => e = .returned (.tuple #[.slice none 0 0, .bool false]) ∧ w = w' := by
  go_enter Try.func64, Try.ntmps64
  go_wp2_with fail
  refine (within_any _ _ _ _).mono ?_
  rintro e w' ⟨rfl, rfl⟩
  rw [hk]
  go_wp2
  go_ret2
  exact ⟨rfl, rfl⟩
theorem spec_l5Same (w : World) {B B' : Nat} (A : Option Addr) (c : Nat) (a : List UInt8) (hr : Reads w B 1 A a.length (byteCells a)) (hA : AForm A) (A' : Option Addr) (c' : Nat) (b : List UInt8) (hr' : Reads w B' 1 A' b.length (byteCells b)) (hA' : AForm A') :
    Calls Try.prog 79 #[.slice A a.length c, .slice A' b.length c'] w fun e w' => e = .returned (.bool (decide (a = b))) ∧ w = w' := by
  have h1 := conv_bytes (P := Try.prog) w 22 9 5 Try.underlying22 Try.underlying5 Try.underlying9 hr hA c
  have h2 := conv_bytes (P := Try.prog) w 22 9 5 Try.underlying22 Try.underlying5 Try.underlying9 hr' hA' c'
  clear hr hr' hA hA'
  go_enter Try.func79, Try.ntmps79
  go_wp2
  go_ret
  exact ⟨ret_bool (by rw [Bool.eq_iff_iff]; simp), rfl⟩
theorem own_low' {w : World} {base base' : Nat} {e : TypeId} {size : Nat} {v : Value} {n : Nat} {xs : List Value} (h : w.ownsRow base e size v n xs) (hb : base' ≤ base) : w.ownsRow base' e size v n xs := own_lower h hb
theorem own_typed {w w' : World} {base size n : Nat} {e e' : TypeId} {v : Value} {xs : List Value} (h : w.ownsRow base e size v n xs) (hk : Kept e' w w') (hne : e ≠ e') : w'.ownsRow base e size v n xs := by
  refine ⟨h.1, h.2.imp id ?_⟩
  rintro ⟨g, cap, cur, h1, h2, h3, h4⟩
  exact ⟨g, cap, cur, h1, h2, (hk g cur e (0, 0) h3 hne).trans h3, h4⟩

end Go.Proofs.Ytgpimlmolcjeoaa
