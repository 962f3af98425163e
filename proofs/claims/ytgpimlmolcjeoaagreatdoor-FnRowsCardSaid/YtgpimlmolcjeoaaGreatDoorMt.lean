/-
  Contract of the laws' markText, and the marks on strings, values and runs.
-/
import Derived.Test.YtgpimlmolcjeoaaGreatDoorArith
import Derived.Test.YtgpimlmolcjeoaaGreatDoorOwned
namespace Go.Proofs.YtgpimlmolcjeoaaGreatDoor
open Go.RowKit
set_option linter.unusedVariables false
set_option maxRecDepth 100000

def dig8 (j : Nat) : UInt8 := UInt8.ofNat (48 + j % 10)
theorem dig8_toNat (j : Nat) : ((dig8 j).toNat : Int) = 48 + (j : Int) % 10 := by
  unfold dig8
  rw [UInt8.toNat_ofNat', Nat.mod_eq_of_lt (by omega)]
  omega
def mtGo : Nat → Nat → List UInt8 → List UInt8
  | 0, _, acc => acc
  | f + 1, k, acc => if k = 0 then acc else mtGo f (k / 10) (dig8 k :: acc)
def mt (k : Nat) : ByteArray := if k = 0 then ⟨#[109, 48]⟩ else ⟨(109 :: mtGo k k []).toArray⟩
theorem mtGo_zero (f : Nat) (acc : List UInt8) : mtGo f 0 acc = acc := by cases f <;> simp [mtGo]
theorem mtGo_step (f k : Nat) (acc : List UInt8) (h : 0 < k) : mtGo (f + 1) k acc = mtGo f (k / 10) (dig8 k :: acc) := by
  simp only [mtGo]; rw [if_neg (by omega)]

theorem app_str (a b : List UInt8) : (⟨a.toArray⟩ : ByteArray) ++ ⟨b.toArray⟩ = ⟨(a ++ b).toArray⟩ := by
  apply ByteArray.ext
  simp
theorem conv_one {P : Program} (w : World) (src dst e : TypeId) (hs : P.underlying src = some (.slice e)) (he : P.underlying e = some (.int .u8)) (hd : P.underlying dst = some .string) (x : UInt8) (n : Int) (hn : n = (x.toNat : Int)) :
    (convert src dst (.slice (some ⟨w.heap.size, 0, none⟩) 1 1)).run P (w.alloc (.cells #[.int .u8 n] e)) = .ok (.string ⟨[x].toArray⟩) (w.alloc (.cells #[.int .u8 n] e)) := by
  have h := run_convert_bytes_arg (P := P) (w.alloc (.cells #[.int .u8 n] e)) src e hs he w.heap.size 0 1 1 [n] rfl (fun i hi => by
    have : i = 0 := by omega
    subst this
    rw [World.cell?_alloc_at _ _ _ _ rfl]; rfl) dst hd
  rw [h, hn]
  simp [strOfNums]


end Go.Proofs.YtgpimlmolcjeoaaGreatDoor
