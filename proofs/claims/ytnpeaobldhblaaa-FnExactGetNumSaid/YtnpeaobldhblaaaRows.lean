/-
  No cell of these rows narrows 'for every input' (looked for: loops, veiled, ifaces, maps, wideKeys, modest, calm, conditions, laid).
  DERIVED. THE GIVEN ROWS OF THIS SEAT. 12 by the template 'for every input the law returns true; each argument reads behind the call as it read before'; 0 by the template 'total and deterministic' (their statements: YtnpeaobldhblaaaTotals.lean).
  GIVEN WITH THE SEED: the statements are not yours to turn. If you find one false, say at which input.
  Laid BY PROGRAM, IN A SANDBOX (cutbox-rows.mjs): the forced cells as the released guide's own fill.sh prints them over the translation 9d61c4d8e757904d… (all of the seat's roots in one cut). By AI agents, Wed Nov 11 2026. No macro, syntax, notation, axiom, sorry.
-/
import Derived.Test.YtnpeaobldhblaaaChecked
import GoSem.Claim
import GoSem.ClaimJoined
import GoSem.ClaimMapViews
import Derived.JoinedTies
import Derived.KernelRfl
namespace Go.Proofs.Ytnpeaobldhblaaa
/- THE CELL 'sum', in the pinned program and in every row, IS THE sha256 OF THE DUMP (.gsa) THAT YtnpeaobldhblaaaProg.lean LOADS. Nothing in Lean hashes anything: it is a label: what it is worth is what the hold of that sum in a sandbox is worth. -/
noncomputable def Try.pinned : Pinned := { name := "ytnpeaobldhblaaa", sum := "9d61c4d8e757904dd79ea0522490b9e29479238202f7cab83f95f06e6172d887", checked := Try.checked }
namespace Rows
def none {H : Type} : Left H := { results := [], args := [] }

/-- 'laws.FnExactConstants': WHATEVER THE INPUT: true; the input reads as it did. -/
def fnExactConstantsSpec : ChangeSpec := { name := "fnExactConstants", fn := fun _ => fun
  | [] => { results := [.lit (.bool true)], args := [] }
  | _ => none }
def fnExactConstantsRow : OpenClaim := { program := "ytnpeaobldhblaaa", sum := "9d61c4d8e757904dd79ea0522490b9e29479238202f7cab83f95f06e6172d887", func := "loop.example/g00496/laws.FnExactConstants", spec := "fnExactConstants", apart := false }
def FnExactConstantsSaid : Prop := fnExactConstantsRow.holds Try.pinned (OpenSpec.ofChange fnExactConstantsSpec)

/-- ITS FALSE NEIGHBOUR: 'it returns false'. Refute it at one input. -/
def fnExactConstantsWrong : ChangeSpec := { name := "fnExactConstants", fn := fun _ => fun
  | [] => { results := [.lit (.bool false)], args := [] }
  | _ => none }
def FnExactConstantsWrongFalsely : Prop := fnExactConstantsRow.holds Try.pinned (OpenSpec.ofChange fnExactConstantsWrong)

/-- 'laws.FnExactLeast': WHATEVER THE INPUT: true; the input reads as it did. -/
def fnExactLeastSpec : ChangeSpec := { name := "fnExactLeast", fn := fun _ => fun
  | [d1, d2] => { results := [.lit (.bool true)], args := [d1, d2] }
  | _ => none }
def fnExactLeastRow : OpenClaim := { program := "ytnpeaobldhblaaa", sum := "9d61c4d8e757904dd79ea0522490b9e29479238202f7cab83f95f06e6172d887", func := "loop.example/g00496/laws.FnExactLeast", spec := "fnExactLeast", apart := false }
def FnExactLeastSaid : Prop := fnExactLeastRow.holds Try.pinned (OpenSpec.ofChange fnExactLeastSpec)

/-- ITS FALSE NEIGHBOUR: 'it returns false'. Refute it at one input. -/
def fnExactLeastWrong : ChangeSpec := { name := "fnExactLeast", fn := fun _ => fun
  | [d1, d2] => { results := [.lit (.bool false)], args := [d1, d2] }
  | _ => none }
def FnExactLeastWrongFalsely : Prop := fnExactLeastRow.holds Try.pinned (OpenSpec.ofChange fnExactLeastWrong)

/-- 'laws.FnExactMost': WHATEVER THE INPUT: true; the input reads as it did. -/
def fnExactMostSpec : ChangeSpec := { name := "fnExactMost", fn := fun _ => fun
  | [d1, d2] => { results := [.lit (.bool true)], args := [d1, d2] }
  | _ => none }
def fnExactMostRow : OpenClaim := { program := "ytnpeaobldhblaaa", sum := "9d61c4d8e757904dd79ea0522490b9e29479238202f7cab83f95f06e6172d887", func := "loop.example/g00496/laws.FnExactMost", spec := "fnExactMost", apart := false }
def FnExactMostSaid : Prop := fnExactMostRow.holds Try.pinned (OpenSpec.ofChange fnExactMostSpec)

/-- ITS FALSE NEIGHBOUR: 'it returns false'. Refute it at one input. -/
def fnExactMostWrong : ChangeSpec := { name := "fnExactMost", fn := fun _ => fun
  | [d1, d2] => { results := [.lit (.bool false)], args := [d1, d2] }
  | _ => none }
def FnExactMostWrongFalsely : Prop := fnExactMostRow.holds Try.pinned (OpenSpec.ofChange fnExactMostWrong)

/-- 'laws.FnExactBytesFor': WHATEVER THE INPUT: true; the input reads as it did. -/
def fnExactBytesForSpec : ChangeSpec := { name := "fnExactBytesFor", fn := fun _ => fun
  | [d1, d2] => { results := [.lit (.bool true)], args := [d1, d2] }
  | _ => none }
def fnExactBytesForRow : OpenClaim := { program := "ytnpeaobldhblaaa", sum := "9d61c4d8e757904dd79ea0522490b9e29479238202f7cab83f95f06e6172d887", func := "loop.example/g00496/laws.FnExactBytesFor", spec := "fnExactBytesFor", apart := false }
def FnExactBytesForSaid : Prop := fnExactBytesForRow.holds Try.pinned (OpenSpec.ofChange fnExactBytesForSpec)

/-- ITS FALSE NEIGHBOUR: 'it returns false'. Refute it at one input. -/
def fnExactBytesForWrong : ChangeSpec := { name := "fnExactBytesFor", fn := fun _ => fun
  | [d1, d2] => { results := [.lit (.bool false)], args := [d1, d2] }
  | _ => none }
def FnExactBytesForWrongFalsely : Prop := fnExactBytesForRow.holds Try.pinned (OpenSpec.ofChange fnExactBytesForWrong)

/-- 'laws.FnExactZagZig': WHATEVER THE INPUT: true; the input reads as it did. -/
def fnExactZagZigSpec : ChangeSpec := { name := "fnExactZagZig", fn := fun _ => fun
  | [d] => { results := [.lit (.bool true)], args := [d] }
  | _ => none }
def fnExactZagZigRow : OpenClaim := { program := "ytnpeaobldhblaaa", sum := "9d61c4d8e757904dd79ea0522490b9e29479238202f7cab83f95f06e6172d887", func := "loop.example/g00496/laws.FnExactZagZig", spec := "fnExactZagZig", apart := false }
def FnExactZagZigSaid : Prop := fnExactZagZigRow.holds Try.pinned (OpenSpec.ofChange fnExactZagZigSpec)

/-- ITS FALSE NEIGHBOUR: 'it returns false'. Refute it at one input. -/
def fnExactZagZigWrong : ChangeSpec := { name := "fnExactZagZig", fn := fun _ => fun
  | [d] => { results := [.lit (.bool false)], args := [d] }
  | _ => none }
def FnExactZagZigWrongFalsely : Prop := fnExactZagZigRow.holds Try.pinned (OpenSpec.ofChange fnExactZagZigWrong)

/-- 'laws.FnExactZigZag': WHATEVER THE INPUT: true; the input reads as it did. -/
def fnExactZigZagSpec : ChangeSpec := { name := "fnExactZigZag", fn := fun _ => fun
  | [d] => { results := [.lit (.bool true)], args := [d] }
  | _ => none }
def fnExactZigZagRow : OpenClaim := { program := "ytnpeaobldhblaaa", sum := "9d61c4d8e757904dd79ea0522490b9e29479238202f7cab83f95f06e6172d887", func := "loop.example/g00496/laws.FnExactZigZag", spec := "fnExactZigZag", apart := false }
def FnExactZigZagSaid : Prop := fnExactZigZagRow.holds Try.pinned (OpenSpec.ofChange fnExactZigZagSpec)

/-- ITS FALSE NEIGHBOUR: 'it returns false'. Refute it at one input. -/
def fnExactZigZagWrong : ChangeSpec := { name := "fnExactZigZag", fn := fun _ => fun
  | [d] => { results := [.lit (.bool false)], args := [d] }
  | _ => none }
def FnExactZigZagWrongFalsely : Prop := fnExactZigZagRow.holds Try.pinned (OpenSpec.ofChange fnExactZigZagWrong)

/-- 'laws.FnExactBitAt': WHATEVER THE INPUT: true; the input reads as it did. -/
def fnExactBitAtSpec : ChangeSpec := { name := "fnExactBitAt", fn := fun _ => fun
  | [d1, d2] => { results := [.lit (.bool true)], args := [d1, d2] }
  | _ => none }
def fnExactBitAtRow : OpenClaim := { program := "ytnpeaobldhblaaa", sum := "9d61c4d8e757904dd79ea0522490b9e29479238202f7cab83f95f06e6172d887", func := "loop.example/g00496/laws.FnExactBitAt", spec := "fnExactBitAt", apart := false }
def FnExactBitAtSaid : Prop := fnExactBitAtRow.holds Try.pinned (OpenSpec.ofChange fnExactBitAtSpec)

/-- ITS FALSE NEIGHBOUR: 'it returns false'. Refute it at one input. -/
def fnExactBitAtWrong : ChangeSpec := { name := "fnExactBitAt", fn := fun _ => fun
  | [d1, d2] => { results := [.lit (.bool false)], args := [d1, d2] }
  | _ => none }
def FnExactBitAtWrongFalsely : Prop := fnExactBitAtRow.holds Try.pinned (OpenSpec.ofChange fnExactBitAtWrong)

/-- 'laws.FnExactLessVal': WHATEVER THE INPUT: true; the input reads as it did. -/
def fnExactLessValSpec : ChangeSpec := { name := "fnExactLessVal", fn := fun _ => fun
  | [d1, d2] => { results := [.lit (.bool true)], args := [d1, d2] }
  | _ => none }
def fnExactLessValRow : OpenClaim := { program := "ytnpeaobldhblaaa", sum := "9d61c4d8e757904dd79ea0522490b9e29479238202f7cab83f95f06e6172d887", func := "loop.example/g00496/laws.FnExactLessVal", spec := "fnExactLessVal", apart := false }
def FnExactLessValSaid : Prop := fnExactLessValRow.holds Try.pinned (OpenSpec.ofChange fnExactLessValSpec)

/-- ITS FALSE NEIGHBOUR: 'it returns false'. Refute it at one input. -/
def fnExactLessValWrong : ChangeSpec := { name := "fnExactLessVal", fn := fun _ => fun
  | [d1, d2] => { results := [.lit (.bool false)], args := [d1, d2] }
  | _ => none }
def FnExactLessValWrongFalsely : Prop := fnExactLessValRow.holds Try.pinned (OpenSpec.ofChange fnExactLessValWrong)

/-- 'laws.FnExactColsOk': WHATEVER THE INPUT: true; the input reads as it did. -/
def fnExactColsOkSpec : ChangeSpec := { name := "fnExactColsOk", fn := fun _ => fun
  | [d] => { results := [.lit (.bool true)], args := [d] }
  | _ => none }
def fnExactColsOkRow : OpenClaim := { program := "ytnpeaobldhblaaa", sum := "9d61c4d8e757904dd79ea0522490b9e29479238202f7cab83f95f06e6172d887", func := "loop.example/g00496/laws.FnExactColsOk", spec := "fnExactColsOk", apart := false }
def FnExactColsOkSaid : Prop := fnExactColsOkRow.holds Try.pinned (OpenSpec.ofChange fnExactColsOkSpec)

/-- ITS FALSE NEIGHBOUR: 'it returns false'. Refute it at one input. -/
def fnExactColsOkWrong : ChangeSpec := { name := "fnExactColsOk", fn := fun _ => fun
  | [d] => { results := [.lit (.bool false)], args := [d] }
  | _ => none }
def FnExactColsOkWrongFalsely : Prop := fnExactColsOkRow.holds Try.pinned (OpenSpec.ofChange fnExactColsOkWrong)

/-- 'laws.FnExactValOk': WHATEVER THE INPUT: true; the input reads as it did. -/
def fnExactValOkSpec : ChangeSpec := { name := "fnExactValOk", fn := fun _ => fun
  | [d] => { results := [.lit (.bool true)], args := [d] }
  | _ => none }
def fnExactValOkRow : OpenClaim := { program := "ytnpeaobldhblaaa", sum := "9d61c4d8e757904dd79ea0522490b9e29479238202f7cab83f95f06e6172d887", func := "loop.example/g00496/laws.FnExactValOk", spec := "fnExactValOk", apart := false }
def FnExactValOkSaid : Prop := fnExactValOkRow.holds Try.pinned (OpenSpec.ofChange fnExactValOkSpec)

/-- ITS FALSE NEIGHBOUR: 'it returns false'. Refute it at one input. -/
def fnExactValOkWrong : ChangeSpec := { name := "fnExactValOk", fn := fun _ => fun
  | [d] => { results := [.lit (.bool false)], args := [d] }
  | _ => none }
def FnExactValOkWrongFalsely : Prop := fnExactValOkRow.holds Try.pinned (OpenSpec.ofChange fnExactValOkWrong)

/-- 'laws.FnExactWidthOf': WHATEVER THE INPUT: true; the input reads as it did. -/
def fnExactWidthOfSpec : ChangeSpec := { name := "fnExactWidthOf", fn := fun _ => fun
  | [d] => { results := [.lit (.bool true)], args := [d] }
  | _ => none }
def fnExactWidthOfRow : OpenClaim := { program := "ytnpeaobldhblaaa", sum := "9d61c4d8e757904dd79ea0522490b9e29479238202f7cab83f95f06e6172d887", func := "loop.example/g00496/laws.FnExactWidthOf", spec := "fnExactWidthOf", apart := false }
def FnExactWidthOfSaid : Prop := fnExactWidthOfRow.holds Try.pinned (OpenSpec.ofChange fnExactWidthOfSpec)

/-- ITS FALSE NEIGHBOUR: 'it returns false'. Refute it at one input. -/
def fnExactWidthOfWrong : ChangeSpec := { name := "fnExactWidthOf", fn := fun _ => fun
  | [d] => { results := [.lit (.bool false)], args := [d] }
  | _ => none }
def FnExactWidthOfWrongFalsely : Prop := fnExactWidthOfRow.holds Try.pinned (OpenSpec.ofChange fnExactWidthOfWrong)

/-- 'laws.FnExactGetNum': WHATEVER THE INPUT: true; the input reads as it did. -/
def fnExactGetNumSpec : ChangeSpec := { name := "fnExactGetNum", fn := fun _ => fun
  | [d1, d2] => { results := [.lit (.bool true)], args := [d1, d2] }
  | _ => none }
def fnExactGetNumRow : OpenClaim := { program := "ytnpeaobldhblaaa", sum := "9d61c4d8e757904dd79ea0522490b9e29479238202f7cab83f95f06e6172d887", func := "loop.example/g00496/laws.FnExactGetNum", spec := "fnExactGetNum", apart := false }
def FnExactGetNumSaid : Prop := fnExactGetNumRow.holds Try.pinned (OpenSpec.ofChange fnExactGetNumSpec)

/-- ITS FALSE NEIGHBOUR: 'it returns false'. Refute it at one input. -/
def fnExactGetNumWrong : ChangeSpec := { name := "fnExactGetNum", fn := fun _ => fun
  | [d1, d2] => { results := [.lit (.bool false)], args := [d1, d2] }
  | _ => none }
def FnExactGetNumWrongFalsely : Prop := fnExactGetNumRow.holds Try.pinned (OpenSpec.ofChange fnExactGetNumWrong)

/- THE SECOND FORM. 'bulk': how many values and letters a reading holds, each counted each time it is reached (what is shared counts as often as it is met; a slice's spare places count too). A statement '..UptoSaid' is the law's where the arguments, and the package variables that the reading takes, are together of bulk at most 1048576: NARROWER than '..Said'. Prove '..Said' where nothing that the law and all that it calls make is longer than what came in: it says more and counts as full. Else prove '..UptoSaid'. A law counts once. -/
mutual
def uptoBulk {H : Type} : DataW H → Nat
  | .lit (.string bytes) => bytes.length + 1
  | .lit _ => 1
  | .nil => 1
  | .ptr d => uptoBulk d + 1
  | .slice elems spare => uptoBulkAll elems + uptoBulkAll spare + 1
  | .agg parts => uptoBulkAll parts + 1
  | .iface _ d => uptoBulk d + 1
  | .map entries => uptoBulkEntries entries + 1
  | .held _ => 1
def uptoBulkAll {H : Type} : List (DataW H) → Nat
  | [] => 0
  | d :: r => uptoBulk d + uptoBulkAll r
def uptoBulkEntries {H : Type} : List (Lit × DataW H) → Nat
  | [] => 0
  | x :: r => uptoBulkEntry x + uptoBulkEntries r
def uptoBulkEntry {H : Type} : Lit × DataW H → Nat
  | (.string bytes, d) => bytes.length + uptoBulk d + 1
  | (_, d) => uptoBulk d + 1
 end
def uptoSmall : (H : Type) → List (DataW H) → Bool := fun _ ds => decide (uptoBulkAll ds ≤ 1048576)
def OpenSpec.upto (s : _root_.Go.ChangeSpec) : _root_.Go.OpenSpec := { _root_.Go.OpenSpec.ofChange s with cond := some uptoSmall }

/-- 'laws.FnExactConstants', WHERE WHAT IT READS IS OF BULK AT MOST 1048576: true; the input reads as it did. -/
def fnExactConstantsUptoRow : OpenClaim := { program := "ytnpeaobldhblaaa", sum := "9d61c4d8e757904dd79ea0522490b9e29479238202f7cab83f95f06e6172d887", func := "loop.example/g00496/laws.FnExactConstants", spec := "fnExactConstants", apart := false, narrowed := true }
def FnExactConstantsUptoSaid : Prop := fnExactConstantsUptoRow.holds Try.pinned (OpenSpec.upto fnExactConstantsSpec)

/-- 'laws.FnExactLeast', WHERE WHAT IT READS IS OF BULK AT MOST 1048576: true; the input reads as it did. -/
def fnExactLeastUptoRow : OpenClaim := { program := "ytnpeaobldhblaaa", sum := "9d61c4d8e757904dd79ea0522490b9e29479238202f7cab83f95f06e6172d887", func := "loop.example/g00496/laws.FnExactLeast", spec := "fnExactLeast", apart := false, narrowed := true }
def FnExactLeastUptoSaid : Prop := fnExactLeastUptoRow.holds Try.pinned (OpenSpec.upto fnExactLeastSpec)

/-- 'laws.FnExactMost', WHERE WHAT IT READS IS OF BULK AT MOST 1048576: true; the input reads as it did. -/
def fnExactMostUptoRow : OpenClaim := { program := "ytnpeaobldhblaaa", sum := "9d61c4d8e757904dd79ea0522490b9e29479238202f7cab83f95f06e6172d887", func := "loop.example/g00496/laws.FnExactMost", spec := "fnExactMost", apart := false, narrowed := true }
def FnExactMostUptoSaid : Prop := fnExactMostUptoRow.holds Try.pinned (OpenSpec.upto fnExactMostSpec)

/-- 'laws.FnExactBytesFor', WHERE WHAT IT READS IS OF BULK AT MOST 1048576: true; the input reads as it did. -/
def fnExactBytesForUptoRow : OpenClaim := { program := "ytnpeaobldhblaaa", sum := "9d61c4d8e757904dd79ea0522490b9e29479238202f7cab83f95f06e6172d887", func := "loop.example/g00496/laws.FnExactBytesFor", spec := "fnExactBytesFor", apart := false, narrowed := true }
def FnExactBytesForUptoSaid : Prop := fnExactBytesForUptoRow.holds Try.pinned (OpenSpec.upto fnExactBytesForSpec)

/-- 'laws.FnExactZagZig', WHERE WHAT IT READS IS OF BULK AT MOST 1048576: true; the input reads as it did. -/
def fnExactZagZigUptoRow : OpenClaim := { program := "ytnpeaobldhblaaa", sum := "9d61c4d8e757904dd79ea0522490b9e29479238202f7cab83f95f06e6172d887", func := "loop.example/g00496/laws.FnExactZagZig", spec := "fnExactZagZig", apart := false, narrowed := true }
def FnExactZagZigUptoSaid : Prop := fnExactZagZigUptoRow.holds Try.pinned (OpenSpec.upto fnExactZagZigSpec)

/-- 'laws.FnExactZigZag', WHERE WHAT IT READS IS OF BULK AT MOST 1048576: true; the input reads as it did. -/
def fnExactZigZagUptoRow : OpenClaim := { program := "ytnpeaobldhblaaa", sum := "9d61c4d8e757904dd79ea0522490b9e29479238202f7cab83f95f06e6172d887", func := "loop.example/g00496/laws.FnExactZigZag", spec := "fnExactZigZag", apart := false, narrowed := true }
def FnExactZigZagUptoSaid : Prop := fnExactZigZagUptoRow.holds Try.pinned (OpenSpec.upto fnExactZigZagSpec)

/-- 'laws.FnExactBitAt', WHERE WHAT IT READS IS OF BULK AT MOST 1048576: true; the input reads as it did. -/
def fnExactBitAtUptoRow : OpenClaim := { program := "ytnpeaobldhblaaa", sum := "9d61c4d8e757904dd79ea0522490b9e29479238202f7cab83f95f06e6172d887", func := "loop.example/g00496/laws.FnExactBitAt", spec := "fnExactBitAt", apart := false, narrowed := true }
def FnExactBitAtUptoSaid : Prop := fnExactBitAtUptoRow.holds Try.pinned (OpenSpec.upto fnExactBitAtSpec)

/-- 'laws.FnExactLessVal', WHERE WHAT IT READS IS OF BULK AT MOST 1048576: true; the input reads as it did. -/
def fnExactLessValUptoRow : OpenClaim := { program := "ytnpeaobldhblaaa", sum := "9d61c4d8e757904dd79ea0522490b9e29479238202f7cab83f95f06e6172d887", func := "loop.example/g00496/laws.FnExactLessVal", spec := "fnExactLessVal", apart := false, narrowed := true }
def FnExactLessValUptoSaid : Prop := fnExactLessValUptoRow.holds Try.pinned (OpenSpec.upto fnExactLessValSpec)

/-- 'laws.FnExactColsOk', WHERE WHAT IT READS IS OF BULK AT MOST 1048576: true; the input reads as it did. -/
def fnExactColsOkUptoRow : OpenClaim := { program := "ytnpeaobldhblaaa", sum := "9d61c4d8e757904dd79ea0522490b9e29479238202f7cab83f95f06e6172d887", func := "loop.example/g00496/laws.FnExactColsOk", spec := "fnExactColsOk", apart := false, narrowed := true }
def FnExactColsOkUptoSaid : Prop := fnExactColsOkUptoRow.holds Try.pinned (OpenSpec.upto fnExactColsOkSpec)

/-- 'laws.FnExactValOk', WHERE WHAT IT READS IS OF BULK AT MOST 1048576: true; the input reads as it did. -/
def fnExactValOkUptoRow : OpenClaim := { program := "ytnpeaobldhblaaa", sum := "9d61c4d8e757904dd79ea0522490b9e29479238202f7cab83f95f06e6172d887", func := "loop.example/g00496/laws.FnExactValOk", spec := "fnExactValOk", apart := false, narrowed := true }
def FnExactValOkUptoSaid : Prop := fnExactValOkUptoRow.holds Try.pinned (OpenSpec.upto fnExactValOkSpec)

/-- 'laws.FnExactWidthOf', WHERE WHAT IT READS IS OF BULK AT MOST 1048576: true; the input reads as it did. -/
def fnExactWidthOfUptoRow : OpenClaim := { program := "ytnpeaobldhblaaa", sum := "9d61c4d8e757904dd79ea0522490b9e29479238202f7cab83f95f06e6172d887", func := "loop.example/g00496/laws.FnExactWidthOf", spec := "fnExactWidthOf", apart := false, narrowed := true }
def FnExactWidthOfUptoSaid : Prop := fnExactWidthOfUptoRow.holds Try.pinned (OpenSpec.upto fnExactWidthOfSpec)

/-- 'laws.FnExactGetNum', WHERE WHAT IT READS IS OF BULK AT MOST 1048576: true; the input reads as it did. -/
def fnExactGetNumUptoRow : OpenClaim := { program := "ytnpeaobldhblaaa", sum := "9d61c4d8e757904dd79ea0522490b9e29479238202f7cab83f95f06e6172d887", func := "loop.example/g00496/laws.FnExactGetNum", spec := "fnExactGetNum", apart := false, narrowed := true }
def FnExactGetNumUptoSaid : Prop := fnExactGetNumUptoRow.holds Try.pinned (OpenSpec.upto fnExactGetNumSpec)

end Rows
end Go.Proofs.Ytnpeaobldhblaaa
