/-
  Contract of the laws' markText, and the marks on strings, values and runs.
-/
import Derived.Test.YtgpimlmolcjeoabDoorArith
import Derived.Test.YtgpimlmolcjeoabDoorOwned
namespace Go.Proofs.YtgpimlmolcjeoabDoor
open Go.RowKit
set_option linter.unusedVariables false
set_option maxRecDepth 100000

def dig8 (j : Nat) : UInt8 := UInt8.ofNat (48 + j % 10)
theorem dig8_toNat (j : Nat) : ((dig8 j).toNat : Int) = 48 + (j : Int) % 10 := by
  unfold dig8
  rw [UInt8.toNat_ofNat', Nat.mod_eq_of_lt (by omega)]
  omega
def mtGo : Nat → Nat → List UInt8 → List UInt8
  | 0, _, acc => acc
  | f + 1, k, acc => if k = 0 then acc else mtGo f (k / 10) (dig8 k :: acc)
def mt (k : Nat) : ByteArray := if k = 0 then ⟨#[109, 48]⟩ else ⟨(109 :: mtGo k k []).toArray⟩
theorem mtGo_zero (f : Nat) (acc : List UInt8) : mtGo f 0 acc = acc := by cases f <;> simp [mtGo]
theorem mtGo_step (f k : Nat) (acc : List UInt8) (h : 0 < k) : mtGo (f + 1) k acc = mtGo f (k / 10) (dig8 k :: acc) := by
  simp only [mtGo]; rw [if_neg (by omega)]

theorem app_str (a b : List UInt8) : (⟨a.toArray⟩ : ByteArray) ++ ⟨b.toArray⟩ = ⟨(a ++ b).toArray⟩ := by
  apply ByteArray.ext
  simp
theorem conv_one {P : Program} (w : World) (src dst e : TypeId) (hs : P.underlying src = some (.slice e)) (he : P.underlying e = some (.int .u8)) (hd : P.underlying dst = some .string) (x : UInt8) (n : Int) (hn : n = (x.toNat : Int)) :
    (convert src dst (.slice (some ⟨w.heap.size, 0, none⟩) 1 1)).run P (w.alloc (.cells #[.int .u8 n] e)) = .ok (.string ⟨[x].toArray⟩) (w.alloc (.cells #[.int .u8 n] e)) := by
  have h := run_convert_bytes_arg (P := P) (w.alloc (.cells #[.int .u8 n] e)) src e hs he w.heap.size 0 1 1 [n] rfl (fun i hi => by
    have : i = 0 := by omega
    subst this
    rw [World.cell?_alloc_at _ _ _ _ rfl]; rfl) dst hd
  rw [h, hn]
  simp [strOfNums]

set_option maxHeartbeats 400000 in
theorem markText_any (w : World) (k : Nat) (hk : k ≤ 1099511627776) :
    Calls Tryd.prog 14 #[.int .i64 k] w fun e w' => e = .returned (.string (mt k)) ∧ Below w.heap.size w w' := by
  by_cases h0 : k = 0
  · subst h0
    go_enter Tryd.func14, Tryd.ntmps14
    go_wp2
    go_ret
    exact ⟨rfl, Below.refl _ _⟩
  go_enter Tryd.func14, Tryd.ntmps14
  go_wp2
  go_loopw [0, 3] (fun q o wr => ∃ (f j : Nat) (acc : List UInt8), q = .int .i64 j ∧ o = .string ⟨acc.toArray⟩ ∧ j ≤ f ∧ acc.length + f ≤ k ∧ Hid (mtGo k k [] = mtGo f j acc) ∧ Below w.heap.size w wr) (fun q _ _ => (intOf q).toNat)
  case atStart => exact ⟨k, k, [], rfl, rfl, Nat.le_refl _, by simp, Lib.hid rfl, Below.refl _ _⟩
  case round =>
    obtain ⟨f, j, acc, rfl, rfl, hjf, hlen, hm, hbl⟩ := hrel
    by_cases hj : 0 < j
    · obtain ⟨f, rfl⟩ : ∃ g, f = g + 1 := ⟨f - 1, by omega⟩
      have hm2 := Lib.hid (hm.out.trans (mtGo_step f j acc hj))
      clear hm
      have hcv := conv_one (P := Tryd.prog) wr 42 9 5 Tryd.underlying42 Tryd.underlying5 Tryd.underlying9 (dig8 j) (48 + (j : Int) % 10) (dig8_toNat j).symm
      go_wp2
      go_roundw
      case rel => exact ⟨f, j / 10, dig8 j :: acc, by go_num, congrArg Value.string (app_str [dig8 j] acc), by omega, by simp; omega, hm2, hbl.alloc hbl.size _⟩
      case measure => simp [intOf]; omega
    · have hj0 : j = 0 := by omega
      subst hj0
      have hm2 := Lib.hid (hm.out.trans (mtGo_zero f acc))
      go_wp2
      go_ret
      exact ⟨ret_val (congrArg Value.string (by unfold mt; rw [if_neg h0, hm2.out]; exact app_str [109] acc)), hbl⟩
theorem markText_int (w : World) (n : Int) (k : Nat) (hn : n = (k : Int)) (hk : k ≤ 1099511627776) :
    Calls Tryd.prog 14 #[.int .i64 n] w fun e w' => e = .returned (.string (mt k)) ∧ Below w.heap.size w w' := by
  subst hn
  exact markText_any w k hk

end Go.Proofs.YtgpimlmolcjeoabDoor
