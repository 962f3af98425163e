/-
  Contracts of DecRuns, and the length of what it returns.
-/
import Derived.Test.YtkgkommlfceneaaDecri
import Derived.Test.YtkgkommlfceneaaDecrs
namespace Go.Proofs.Ytkgkommlfceneaa
theorem drL_len (bs : List UInt8) (ty k : Int) : (drL bs ty k).length ≤ 64 := by
  unfold drL decRuns
  split
  · simp
  · split
    · split
      · simp
      · split
        · rw [Option.getD_some]; exact spreadOf_len _
        · simp
    · simp
end Go.Proofs.Ytkgkommlfceneaa
