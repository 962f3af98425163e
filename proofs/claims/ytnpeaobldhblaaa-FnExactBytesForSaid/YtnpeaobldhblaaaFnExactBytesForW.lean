/-
  The walk of the law FnExactBytesFor: the Go function returns true.
-/
import Derived.Test.YtnpeaobldhblaaaNum
namespace Go.Proofs.Ytnpeaobldhblaaa.fnExactBytesFor
open Go.RowKit
set_option linter.unusedVariables false

theorem walk (w : World) (a0 : Int) (ha0 : I64 a0) (a1 : Int) (ha1 : I64 a1) :
    Calls Try.prog 6 #[.int .i64 a0, .int .i64 a1] w fun e w' => e = .returned (.bool true) ∧ Below w.heap.size w w' := by
  go_enter Try.func6, Try.ntmps6
  go_wp2_with (first
    | (go_at_call 19; refine (spec_BytesFor _ _ _).mono ?_; rintro e w' ⟨rfl, rfl⟩)
    | (go_at_call 20; refine (impl_BytesFor _ _ _).mono ?_; rintro e w' ⟨rfl, rfl⟩))
  go_ret
  exact ⟨rfl, Below.refl _ _⟩

end Go.Proofs.Ytnpeaobldhblaaa.fnExactBytesFor
