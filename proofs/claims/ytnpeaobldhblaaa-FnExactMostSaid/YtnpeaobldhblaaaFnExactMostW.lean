/-
  The walk of the law FnExactMost: the Go function returns true.
-/
import Derived.Test.YtnpeaobldhblaaaNum
namespace Go.Proofs.Ytnpeaobldhblaaa.fnExactMost
open Go.RowKit
set_option linter.unusedVariables false

theorem walk (w : World) (a0 : Int) (ha0 : I64 a0) (a1 : Int) (ha1 : I64 a1) :
    Calls Try.prog 5 #[.int .i64 a0, .int .i64 a1] w fun e w' => e = .returned (.bool true) ∧ Below w.heap.size w w' := by
  go_enter Try.func5, Try.ntmps5
  go_wp2_with (first
    | (go_at_call 17; refine (spec_Most _ _ _).mono ?_; rintro e w' ⟨rfl, rfl⟩)
    | (go_at_call 18; refine (impl_Most _ _ _).mono ?_; rintro e w' ⟨rfl, rfl⟩))
  go_ret
  exact ⟨rfl, Below.refl _ _⟩

end Go.Proofs.Ytnpeaobldhblaaa.fnExactMost
