/-
  The walk of the law FnExactZigZag: the Go function returns true.
-/
import Derived.Test.YtnpeaobldhblaaaNum
namespace Go.Proofs.Ytnpeaobldhblaaa.fnExactZigZag
open Go.RowKit
set_option linter.unusedVariables false

theorem walk (w : World) (a0 : Int) (ha0 : I64 a0) :
    Calls Try.prog 8 #[.int .i64 a0] w fun e w' => e = .returned (.bool true) ∧ Below w.heap.size w w' := by
  go_enter Try.func8, Try.ntmps8
  go_wp2_with (first
    | (go_at_call 23; refine (spec_ZigZag _ _).mono ?_; rintro e w' ⟨rfl, rfl⟩)
    | (go_at_call 24; refine (impl_ZigZag _ _).mono ?_; rintro e w' ⟨rfl, rfl⟩))
  go_ret
  exact ⟨rfl, Below.refl _ _⟩

end Go.Proofs.Ytnpeaobldhblaaa.fnExactZigZag
