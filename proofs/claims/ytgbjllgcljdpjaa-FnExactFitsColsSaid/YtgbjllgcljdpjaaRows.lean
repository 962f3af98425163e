/-
  No cell of these rows narrows 'for every input' (looked for: loops, veiled, ifaces, maps, wideKeys, modest, calm, conditions, laid).
  DERIVED. THE GIVEN ROWS OF THIS SEAT. 12 by the template 'for every input the law returns true; each argument reads behind the call as it read before'; 0 by the template 'total and deterministic' (their statements: YtgbjllgcljdpjaaTotals.lean).
  GIVEN WITH THE SEED: the statements are not yours to turn. If you find one false, say at which input.
  Laid BY PROGRAM, IN A SANDBOX (cutbox-rows.mjs): the forced cells as the released guide's own fill.sh prints them over the translation 0d2368d9432534ab… (all of the seat's roots in one cut). By AI agents, Wed Nov 11 2026. No macro, syntax, notation, axiom, sorry.
-/
import Derived.Test.YtgbjllgcljdpjaaChecked
import GoSem.Claim
import GoSem.ClaimJoined
import GoSem.ClaimMapViews
import Derived.JoinedTies
import Derived.KernelRfl
namespace Go.Proofs.Ytgbjllgcljdpjaa
/- THE CELL 'sum', in the pinned program and in every row, IS THE sha256 OF THE DUMP (.gsa) THAT YtgbjllgcljdpjaaProg.lean LOADS. Nothing in Lean hashes anything: it is a label: what it is worth is what the hold of that sum in a sandbox is worth. -/
noncomputable def Try.pinned : Pinned := { name := "ytgbjllgcljdpjaa", sum := "0d2368d9432534ab277b8803a899233a57c2cae7a82403ede0033f3a69ef60a5", checked := Try.checked }
namespace Rows
def none {H : Type} : Left H := { results := [], args := [] }

/-- 'laws.FnExactInDict': WHATEVER THE INPUT: true; the input reads as it did. -/
def fnExactInDictSpec : ChangeSpec := { name := "fnExactInDict", fn := fun _ => fun
  | [d1, d2] => { results := [.lit (.bool true)], args := [d1, d2] }
  | _ => none }
def fnExactInDictRow : OpenClaim := { program := "ytgbjllgcljdpjaa", sum := "0d2368d9432534ab277b8803a899233a57c2cae7a82403ede0033f3a69ef60a5", func := "loop.example/g00496/laws.FnExactInDict", spec := "fnExactInDict", apart := false }
def FnExactInDictSaid : Prop := fnExactInDictRow.holds Try.pinned (OpenSpec.ofChange fnExactInDictSpec)

/-- ITS FALSE NEIGHBOUR: 'it returns false'. Refute it at one input. -/
def fnExactInDictWrong : ChangeSpec := { name := "fnExactInDict", fn := fun _ => fun
  | [d1, d2] => { results := [.lit (.bool false)], args := [d1, d2] }
  | _ => none }
def FnExactInDictWrongFalsely : Prop := fnExactInDictRow.holds Try.pinned (OpenSpec.ofChange fnExactInDictWrong)

/-- 'laws.FnExactBase': WHATEVER THE INPUT: true; the input reads as it did. -/
def fnExactBaseSpec : ChangeSpec := { name := "fnExactBase", fn := fun _ => fun
  | [d] => { results := [.lit (.bool true)], args := [d] }
  | _ => none }
def fnExactBaseRow : OpenClaim := { program := "ytgbjllgcljdpjaa", sum := "0d2368d9432534ab277b8803a899233a57c2cae7a82403ede0033f3a69ef60a5", func := "loop.example/g00496/laws.FnExactBase", spec := "fnExactBase", apart := false }
def FnExactBaseSaid : Prop := fnExactBaseRow.holds Try.pinned (OpenSpec.ofChange fnExactBaseSpec)

/-- ITS FALSE NEIGHBOUR: 'it returns false'. Refute it at one input. -/
def fnExactBaseWrong : ChangeSpec := { name := "fnExactBase", fn := fun _ => fun
  | [d] => { results := [.lit (.bool false)], args := [d] }
  | _ => none }
def FnExactBaseWrongFalsely : Prop := fnExactBaseRow.holds Try.pinned (OpenSpec.ofChange fnExactBaseWrong)

/-- 'laws.FnExactTurns': WHATEVER THE INPUT: true; the input reads as it did. -/
def fnExactTurnsSpec : ChangeSpec := { name := "fnExactTurns", fn := fun _ => fun
  | [d] => { results := [.lit (.bool true)], args := [d] }
  | _ => none }
def fnExactTurnsRow : OpenClaim := { program := "ytgbjllgcljdpjaa", sum := "0d2368d9432534ab277b8803a899233a57c2cae7a82403ede0033f3a69ef60a5", func := "loop.example/g00496/laws.FnExactTurns", spec := "fnExactTurns", apart := false }
def FnExactTurnsSaid : Prop := fnExactTurnsRow.holds Try.pinned (OpenSpec.ofChange fnExactTurnsSpec)

/-- ITS FALSE NEIGHBOUR: 'it returns false'. Refute it at one input. -/
def fnExactTurnsWrong : ChangeSpec := { name := "fnExactTurns", fn := fun _ => fun
  | [d] => { results := [.lit (.bool false)], args := [d] }
  | _ => none }
def FnExactTurnsWrongFalsely : Prop := fnExactTurnsRow.holds Try.pinned (OpenSpec.ofChange fnExactTurnsWrong)

/-- 'laws.FnExactSameVals': WHATEVER THE INPUT: true; the input reads as it did. -/
def fnExactSameValsSpec : ChangeSpec := { name := "fnExactSameVals", fn := fun _ => fun
  | [d1, d2] => { results := [.lit (.bool true)], args := [d1, d2] }
  | _ => none }
def fnExactSameValsRow : OpenClaim := { program := "ytgbjllgcljdpjaa", sum := "0d2368d9432534ab277b8803a899233a57c2cae7a82403ede0033f3a69ef60a5", func := "loop.example/g00496/laws.FnExactSameVals", spec := "fnExactSameVals", apart := false }
def FnExactSameValsSaid : Prop := fnExactSameValsRow.holds Try.pinned (OpenSpec.ofChange fnExactSameValsSpec)

/-- ITS FALSE NEIGHBOUR: 'it returns false'. Refute it at one input. -/
def fnExactSameValsWrong : ChangeSpec := { name := "fnExactSameVals", fn := fun _ => fun
  | [d1, d2] => { results := [.lit (.bool false)], args := [d1, d2] }
  | _ => none }
def FnExactSameValsWrongFalsely : Prop := fnExactSameValsRow.holds Try.pinned (OpenSpec.ofChange fnExactSameValsWrong)

/-- 'laws.FnExactLongestRun': WHATEVER THE INPUT: true; the input reads as it did. -/
def fnExactLongestRunSpec : ChangeSpec := { name := "fnExactLongestRun", fn := fun _ => fun
  | [d] => { results := [.lit (.bool true)], args := [d] }
  | _ => none }
def fnExactLongestRunRow : OpenClaim := { program := "ytgbjllgcljdpjaa", sum := "0d2368d9432534ab277b8803a899233a57c2cae7a82403ede0033f3a69ef60a5", func := "loop.example/g00496/laws.FnExactLongestRun", spec := "fnExactLongestRun", apart := false }
def FnExactLongestRunSaid : Prop := fnExactLongestRunRow.holds Try.pinned (OpenSpec.ofChange fnExactLongestRunSpec)

/-- ITS FALSE NEIGHBOUR: 'it returns false'. Refute it at one input. -/
def fnExactLongestRunWrong : ChangeSpec := { name := "fnExactLongestRun", fn := fun _ => fun
  | [d] => { results := [.lit (.bool false)], args := [d] }
  | _ => none }
def FnExactLongestRunWrongFalsely : Prop := fnExactLongestRunRow.holds Try.pinned (OpenSpec.ofChange fnExactLongestRunWrong)

/-- 'laws.FnExactSameRow': WHATEVER THE INPUT: true; the input reads as it did. -/
def fnExactSameRowSpec : ChangeSpec := { name := "fnExactSameRow", fn := fun _ => fun
  | [d1, d2] => { results := [.lit (.bool true)], args := [d1, d2] }
  | _ => none }
def fnExactSameRowRow : OpenClaim := { program := "ytgbjllgcljdpjaa", sum := "0d2368d9432534ab277b8803a899233a57c2cae7a82403ede0033f3a69ef60a5", func := "loop.example/g00496/laws.FnExactSameRow", spec := "fnExactSameRow", apart := false }
def FnExactSameRowSaid : Prop := fnExactSameRowRow.holds Try.pinned (OpenSpec.ofChange fnExactSameRowSpec)

/-- ITS FALSE NEIGHBOUR: 'it returns false'. Refute it at one input. -/
def fnExactSameRowWrong : ChangeSpec := { name := "fnExactSameRow", fn := fun _ => fun
  | [d1, d2] => { results := [.lit (.bool false)], args := [d1, d2] }
  | _ => none }
def FnExactSameRowWrongFalsely : Prop := fnExactSameRowRow.holds Try.pinned (OpenSpec.ofChange fnExactSameRowWrong)

/-- 'laws.FnExactTypeOf': WHATEVER THE INPUT: true; the input reads as it did. -/
def fnExactTypeOfSpec : ChangeSpec := { name := "fnExactTypeOf", fn := fun _ => fun
  | [d] => { results := [.lit (.bool true)], args := [d] }
  | _ => none }
def fnExactTypeOfRow : OpenClaim := { program := "ytgbjllgcljdpjaa", sum := "0d2368d9432534ab277b8803a899233a57c2cae7a82403ede0033f3a69ef60a5", func := "loop.example/g00496/laws.FnExactTypeOf", spec := "fnExactTypeOf", apart := false }
def FnExactTypeOfSaid : Prop := fnExactTypeOfRow.holds Try.pinned (OpenSpec.ofChange fnExactTypeOfSpec)

/-- ITS FALSE NEIGHBOUR: 'it returns false'. Refute it at one input. -/
def fnExactTypeOfWrong : ChangeSpec := { name := "fnExactTypeOf", fn := fun _ => fun
  | [d] => { results := [.lit (.bool false)], args := [d] }
  | _ => none }
def FnExactTypeOfWrongFalsely : Prop := fnExactTypeOfRow.holds Try.pinned (OpenSpec.ofChange fnExactTypeOfWrong)

/-- 'laws.FnExactRaised': WHATEVER THE INPUT: true; the input reads as it did. -/
def fnExactRaisedSpec : ChangeSpec := { name := "fnExactRaised", fn := fun _ => fun
  | [d1, d2] => { results := [.lit (.bool true)], args := [d1, d2] }
  | _ => none }
def fnExactRaisedRow : OpenClaim := { program := "ytgbjllgcljdpjaa", sum := "0d2368d9432534ab277b8803a899233a57c2cae7a82403ede0033f3a69ef60a5", func := "loop.example/g00496/laws.FnExactRaised", spec := "fnExactRaised", apart := false }
def FnExactRaisedSaid : Prop := fnExactRaisedRow.holds Try.pinned (OpenSpec.ofChange fnExactRaisedSpec)

/-- ITS FALSE NEIGHBOUR: 'it returns false'. Refute it at one input. -/
def fnExactRaisedWrong : ChangeSpec := { name := "fnExactRaised", fn := fun _ => fun
  | [d1, d2] => { results := [.lit (.bool false)], args := [d1, d2] }
  | _ => none }
def FnExactRaisedWrongFalsely : Prop := fnExactRaisedRow.holds Try.pinned (OpenSpec.ofChange fnExactRaisedWrong)

/-- 'laws.FnExactNumsOf': WHATEVER THE INPUT: true; the input reads as it did. -/
def fnExactNumsOfSpec : ChangeSpec := { name := "fnExactNumsOf", fn := fun _ => fun
  | [d] => { results := [.lit (.bool true)], args := [d] }
  | _ => none }
def fnExactNumsOfRow : OpenClaim := { program := "ytgbjllgcljdpjaa", sum := "0d2368d9432534ab277b8803a899233a57c2cae7a82403ede0033f3a69ef60a5", func := "loop.example/g00496/laws.FnExactNumsOf", spec := "fnExactNumsOf", apart := false }
def FnExactNumsOfSaid : Prop := fnExactNumsOfRow.holds Try.pinned (OpenSpec.ofChange fnExactNumsOfSpec)

/-- ITS FALSE NEIGHBOUR: 'it returns false'. Refute it at one input. -/
def fnExactNumsOfWrong : ChangeSpec := { name := "fnExactNumsOf", fn := fun _ => fun
  | [d] => { results := [.lit (.bool false)], args := [d] }
  | _ => none }
def FnExactNumsOfWrongFalsely : Prop := fnExactNumsOfRow.holds Try.pinned (OpenSpec.ofChange fnExactNumsOfWrong)

/-- 'laws.FnExactTextsOf': WHATEVER THE INPUT: true; the input reads as it did. -/
def fnExactTextsOfSpec : ChangeSpec := { name := "fnExactTextsOf", fn := fun _ => fun
  | [d] => { results := [.lit (.bool true)], args := [d] }
  | _ => none }
def fnExactTextsOfRow : OpenClaim := { program := "ytgbjllgcljdpjaa", sum := "0d2368d9432534ab277b8803a899233a57c2cae7a82403ede0033f3a69ef60a5", func := "loop.example/g00496/laws.FnExactTextsOf", spec := "fnExactTextsOf", apart := false }
def FnExactTextsOfSaid : Prop := fnExactTextsOfRow.holds Try.pinned (OpenSpec.ofChange fnExactTextsOfSpec)

/-- ITS FALSE NEIGHBOUR: 'it returns false'. Refute it at one input. -/
def fnExactTextsOfWrong : ChangeSpec := { name := "fnExactTextsOf", fn := fun _ => fun
  | [d] => { results := [.lit (.bool false)], args := [d] }
  | _ => none }
def FnExactTextsOfWrongFalsely : Prop := fnExactTextsOfRow.holds Try.pinned (OpenSpec.ofChange fnExactTextsOfWrong)

/-- 'laws.FnExactFitsCols': WHATEVER THE INPUT: true; the input reads as it did. -/
def fnExactFitsColsSpec : ChangeSpec := { name := "fnExactFitsCols", fn := fun _ => fun
  | [d1, d2] => { results := [.lit (.bool true)], args := [d1, d2] }
  | _ => none }
def fnExactFitsColsRow : OpenClaim := { program := "ytgbjllgcljdpjaa", sum := "0d2368d9432534ab277b8803a899233a57c2cae7a82403ede0033f3a69ef60a5", func := "loop.example/g00496/laws.FnExactFitsCols", spec := "fnExactFitsCols", apart := false }
def FnExactFitsColsSaid : Prop := fnExactFitsColsRow.holds Try.pinned (OpenSpec.ofChange fnExactFitsColsSpec)

/-- ITS FALSE NEIGHBOUR: 'it returns false'. Refute it at one input. -/
def fnExactFitsColsWrong : ChangeSpec := { name := "fnExactFitsCols", fn := fun _ => fun
  | [d1, d2] => { results := [.lit (.bool false)], args := [d1, d2] }
  | _ => none }
def FnExactFitsColsWrongFalsely : Prop := fnExactFitsColsRow.holds Try.pinned (OpenSpec.ofChange fnExactFitsColsWrong)

/-- 'laws.FnExactPicked': WHATEVER THE INPUT: true; the input reads as it did. -/
def fnExactPickedSpec : ChangeSpec := { name := "fnExactPicked", fn := fun _ => fun
  | [d1, d2] => { results := [.lit (.bool true)], args := [d1, d2] }
  | _ => none }
def fnExactPickedRow : OpenClaim := { program := "ytgbjllgcljdpjaa", sum := "0d2368d9432534ab277b8803a899233a57c2cae7a82403ede0033f3a69ef60a5", func := "loop.example/g00496/laws.FnExactPicked", spec := "fnExactPicked", apart := false }
def FnExactPickedSaid : Prop := fnExactPickedRow.holds Try.pinned (OpenSpec.ofChange fnExactPickedSpec)

/-- ITS FALSE NEIGHBOUR: 'it returns false'. Refute it at one input. -/
def fnExactPickedWrong : ChangeSpec := { name := "fnExactPicked", fn := fun _ => fun
  | [d1, d2] => { results := [.lit (.bool false)], args := [d1, d2] }
  | _ => none }
def FnExactPickedWrongFalsely : Prop := fnExactPickedRow.holds Try.pinned (OpenSpec.ofChange fnExactPickedWrong)

/- THE SECOND FORM. 'bulk': how many values and letters a reading holds, each counted each time it is reached (what is shared counts as often as it is met; a slice's spare places count too). A statement '..UptoSaid' is the law's where the arguments, and the package variables that the reading takes, are together of bulk at most 1048576: NARROWER than '..Said'. Prove '..Said' where nothing that the law and all that it calls make is longer than what came in: it says more and counts as full. Else prove '..UptoSaid'. A law counts once. -/
mutual
def uptoBulk {H : Type} : DataW H → Nat
  | .lit (.string bytes) => bytes.length + 1
  | .lit _ => 1
  | .nil => 1
  | .ptr d => uptoBulk d + 1
  | .slice elems spare => uptoBulkAll elems + uptoBulkAll spare + 1
  | .agg parts => uptoBulkAll parts + 1
  | .iface _ d => uptoBulk d + 1
  | .map entries => uptoBulkEntries entries + 1
  | .held _ => 1
def uptoBulkAll {H : Type} : List (DataW H) → Nat
  | [] => 0
  | d :: r => uptoBulk d + uptoBulkAll r
def uptoBulkEntries {H : Type} : List (Lit × DataW H) → Nat
  | [] => 0
  | x :: r => uptoBulkEntry x + uptoBulkEntries r
def uptoBulkEntry {H : Type} : Lit × DataW H → Nat
  | (.string bytes, d) => bytes.length + uptoBulk d + 1
  | (_, d) => uptoBulk d + 1
 end
def uptoSmall : (H : Type) → List (DataW H) → Bool := fun _ ds => decide (uptoBulkAll ds ≤ 1048576)
def OpenSpec.upto (s : _root_.Go.ChangeSpec) : _root_.Go.OpenSpec := { _root_.Go.OpenSpec.ofChange s with cond := some uptoSmall }

/-- 'laws.FnExactInDict', WHERE WHAT IT READS IS OF BULK AT MOST 1048576: true; the input reads as it did. -/
def fnExactInDictUptoRow : OpenClaim := { program := "ytgbjllgcljdpjaa", sum := "0d2368d9432534ab277b8803a899233a57c2cae7a82403ede0033f3a69ef60a5", func := "loop.example/g00496/laws.FnExactInDict", spec := "fnExactInDict", apart := false, narrowed := true }
def FnExactInDictUptoSaid : Prop := fnExactInDictUptoRow.holds Try.pinned (OpenSpec.upto fnExactInDictSpec)

/-- 'laws.FnExactBase', WHERE WHAT IT READS IS OF BULK AT MOST 1048576: true; the input reads as it did. -/
def fnExactBaseUptoRow : OpenClaim := { program := "ytgbjllgcljdpjaa", sum := "0d2368d9432534ab277b8803a899233a57c2cae7a82403ede0033f3a69ef60a5", func := "loop.example/g00496/laws.FnExactBase", spec := "fnExactBase", apart := false, narrowed := true }
def FnExactBaseUptoSaid : Prop := fnExactBaseUptoRow.holds Try.pinned (OpenSpec.upto fnExactBaseSpec)

/-- 'laws.FnExactTurns', WHERE WHAT IT READS IS OF BULK AT MOST 1048576: true; the input reads as it did. -/
def fnExactTurnsUptoRow : OpenClaim := { program := "ytgbjllgcljdpjaa", sum := "0d2368d9432534ab277b8803a899233a57c2cae7a82403ede0033f3a69ef60a5", func := "loop.example/g00496/laws.FnExactTurns", spec := "fnExactTurns", apart := false, narrowed := true }
def FnExactTurnsUptoSaid : Prop := fnExactTurnsUptoRow.holds Try.pinned (OpenSpec.upto fnExactTurnsSpec)

/-- 'laws.FnExactSameVals', WHERE WHAT IT READS IS OF BULK AT MOST 1048576: true; the input reads as it did. -/
def fnExactSameValsUptoRow : OpenClaim := { program := "ytgbjllgcljdpjaa", sum := "0d2368d9432534ab277b8803a899233a57c2cae7a82403ede0033f3a69ef60a5", func := "loop.example/g00496/laws.FnExactSameVals", spec := "fnExactSameVals", apart := false, narrowed := true }
def FnExactSameValsUptoSaid : Prop := fnExactSameValsUptoRow.holds Try.pinned (OpenSpec.upto fnExactSameValsSpec)

/-- 'laws.FnExactLongestRun', WHERE WHAT IT READS IS OF BULK AT MOST 1048576: true; the input reads as it did. -/
def fnExactLongestRunUptoRow : OpenClaim := { program := "ytgbjllgcljdpjaa", sum := "0d2368d9432534ab277b8803a899233a57c2cae7a82403ede0033f3a69ef60a5", func := "loop.example/g00496/laws.FnExactLongestRun", spec := "fnExactLongestRun", apart := false, narrowed := true }
def FnExactLongestRunUptoSaid : Prop := fnExactLongestRunUptoRow.holds Try.pinned (OpenSpec.upto fnExactLongestRunSpec)

/-- 'laws.FnExactSameRow', WHERE WHAT IT READS IS OF BULK AT MOST 1048576: true; the input reads as it did. -/
def fnExactSameRowUptoRow : OpenClaim := { program := "ytgbjllgcljdpjaa", sum := "0d2368d9432534ab277b8803a899233a57c2cae7a82403ede0033f3a69ef60a5", func := "loop.example/g00496/laws.FnExactSameRow", spec := "fnExactSameRow", apart := false, narrowed := true }
def FnExactSameRowUptoSaid : Prop := fnExactSameRowUptoRow.holds Try.pinned (OpenSpec.upto fnExactSameRowSpec)

/-- 'laws.FnExactTypeOf', WHERE WHAT IT READS IS OF BULK AT MOST 1048576: true; the input reads as it did. -/
def fnExactTypeOfUptoRow : OpenClaim := { program := "ytgbjllgcljdpjaa", sum := "0d2368d9432534ab277b8803a899233a57c2cae7a82403ede0033f3a69ef60a5", func := "loop.example/g00496/laws.FnExactTypeOf", spec := "fnExactTypeOf", apart := false, narrowed := true }
def FnExactTypeOfUptoSaid : Prop := fnExactTypeOfUptoRow.holds Try.pinned (OpenSpec.upto fnExactTypeOfSpec)

/-- 'laws.FnExactRaised', WHERE WHAT IT READS IS OF BULK AT MOST 1048576: true; the input reads as it did. -/
def fnExactRaisedUptoRow : OpenClaim := { program := "ytgbjllgcljdpjaa", sum := "0d2368d9432534ab277b8803a899233a57c2cae7a82403ede0033f3a69ef60a5", func := "loop.example/g00496/laws.FnExactRaised", spec := "fnExactRaised", apart := false, narrowed := true }
def FnExactRaisedUptoSaid : Prop := fnExactRaisedUptoRow.holds Try.pinned (OpenSpec.upto fnExactRaisedSpec)

/-- 'laws.FnExactNumsOf', WHERE WHAT IT READS IS OF BULK AT MOST 1048576: true; the input reads as it did. -/
def fnExactNumsOfUptoRow : OpenClaim := { program := "ytgbjllgcljdpjaa", sum := "0d2368d9432534ab277b8803a899233a57c2cae7a82403ede0033f3a69ef60a5", func := "loop.example/g00496/laws.FnExactNumsOf", spec := "fnExactNumsOf", apart := false, narrowed := true }
def FnExactNumsOfUptoSaid : Prop := fnExactNumsOfUptoRow.holds Try.pinned (OpenSpec.upto fnExactNumsOfSpec)

/-- 'laws.FnExactTextsOf', WHERE WHAT IT READS IS OF BULK AT MOST 1048576: true; the input reads as it did. -/
def fnExactTextsOfUptoRow : OpenClaim := { program := "ytgbjllgcljdpjaa", sum := "0d2368d9432534ab277b8803a899233a57c2cae7a82403ede0033f3a69ef60a5", func := "loop.example/g00496/laws.FnExactTextsOf", spec := "fnExactTextsOf", apart := false, narrowed := true }
def FnExactTextsOfUptoSaid : Prop := fnExactTextsOfUptoRow.holds Try.pinned (OpenSpec.upto fnExactTextsOfSpec)

/-- 'laws.FnExactFitsCols', WHERE WHAT IT READS IS OF BULK AT MOST 1048576: true; the input reads as it did. -/
def fnExactFitsColsUptoRow : OpenClaim := { program := "ytgbjllgcljdpjaa", sum := "0d2368d9432534ab277b8803a899233a57c2cae7a82403ede0033f3a69ef60a5", func := "loop.example/g00496/laws.FnExactFitsCols", spec := "fnExactFitsCols", apart := false, narrowed := true }
def FnExactFitsColsUptoSaid : Prop := fnExactFitsColsUptoRow.holds Try.pinned (OpenSpec.upto fnExactFitsColsSpec)

/-- 'laws.FnExactPicked', WHERE WHAT IT READS IS OF BULK AT MOST 1048576: true; the input reads as it did. -/
def fnExactPickedUptoRow : OpenClaim := { program := "ytgbjllgcljdpjaa", sum := "0d2368d9432534ab277b8803a899233a57c2cae7a82403ede0033f3a69ef60a5", func := "loop.example/g00496/laws.FnExactPicked", spec := "fnExactPicked", apart := false, narrowed := true }
def FnExactPickedUptoSaid : Prop := fnExactPickedUptoRow.holds Try.pinned (OpenSpec.upto fnExactPickedSpec)

end Rows
end Go.Proofs.Ytgbjllgcljdpjaa
