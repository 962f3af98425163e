/-
  Contracts of DecPlain.
-/
import Derived.Test.YtckfogpjljbelaaDeci
import Derived.Test.YtckfogpjljbelaaDecs
namespace Go.Proofs.Ytckfogpjljbelaa
open Go.RowKit
set_option linter.unusedVariables false
set_option maxRecDepth 100000

theorem dpL_len (bs : List UInt8) (ty k : Int) : (dpL bs ty k).length ≤ 64 := by
  unfold dpL decPlain
  split
  · rename_i h
    obtain ⟨K, rfl, h1, h2⟩ := inB_nat h
    rw [Int.toNat_natCast]
    cases hd : dvAcc bs ty K [] 0 with
    | none => simp
    | some r =>
      obtain ⟨l, q⟩ := r
      have hl := (enc_dv h1 h2 hd).1
      dsimp only
      split
      · simp only [Option.getD_some]; omega
      · simp
  · simp

end Go.Proofs.Ytckfogpjljbelaa
