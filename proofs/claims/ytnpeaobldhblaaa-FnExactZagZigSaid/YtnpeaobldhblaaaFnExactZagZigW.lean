/-
  The walk of the law FnExactZagZig: the Go function returns true.
-/
import Derived.Test.YtnpeaobldhblaaaNum
namespace Go.Proofs.Ytnpeaobldhblaaa.fnExactZagZig
open Go.RowKit
set_option linter.unusedVariables false

theorem walk (w : World) (a0 : Int) (ha0 : I64 a0) :
    Calls Try.prog 7 #[.int .i64 a0] w fun e w' => e = .returned (.bool true) ∧ Below w.heap.size w w' := by
  go_enter Try.func7, Try.ntmps7
  go_wp2_with (first
    | (go_at_call 21; refine (spec_ZagZig _ _).mono ?_; rintro e w' ⟨rfl, rfl⟩)
    | (go_at_call 22; refine (impl_ZagZig _ _).mono ?_; rintro e w' ⟨rfl, rfl⟩))
  go_ret
  exact ⟨rfl, Below.refl _ _⟩

end Go.Proofs.Ytnpeaobldhblaaa.fnExactZagZig
