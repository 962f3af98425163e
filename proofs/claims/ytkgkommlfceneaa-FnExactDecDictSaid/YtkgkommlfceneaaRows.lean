/-
  No cell of these rows narrows 'for every input' (looked for: loops, veiled, ifaces, maps, wideKeys, modest, calm, conditions, laid).
  DERIVED. THE GIVEN ROWS OF THIS SEAT. 12 by the template 'for every input the law returns true; each argument reads behind the call as it read before'; 0 by the template 'total and deterministic' (their statements: YtkgkommlfceneaaTotals.lean).
  GIVEN WITH THE SEED: the statements are not yours to turn. If you find one false, say at which input.
  Laid BY PROGRAM, IN A SANDBOX (cutbox-rows.mjs): the forced cells as the released guide's own fill.sh prints them over the translation 52b5da2bc204d7ce… (all of the seat's roots in one cut). By AI agents, Wed Nov 11 2026. No macro, syntax, notation, axiom, sorry.
-/
import Derived.Test.YtkgkommlfceneaaChecked
import GoSem.Claim
import GoSem.ClaimJoined
import GoSem.ClaimMapViews
import Derived.JoinedTies
import Derived.KernelRfl
namespace Go.Proofs.Ytkgkommlfceneaa
/- THE CELL 'sum', in the pinned program and in every row, IS THE sha256 OF THE DUMP (.gsa) THAT YtkgkommlfceneaaProg.lean LOADS. Nothing in Lean hashes anything: it is a label: what it is worth is what the hold of that sum in a sandbox is worth. -/
noncomputable def Try.pinned : Pinned := { name := "ytkgkommlfceneaa", sum := "52b5da2bc204d7cea46859fb199139d6060382bf52f2b7dcfe475dcff11d343b", checked := Try.checked }
namespace Rows
def none {H : Type} : Left H := { results := [], args := [] }

/-- 'laws.FnExactInDict': WHATEVER THE INPUT: true; the input reads as it did. -/
def fnExactInDictSpec : ChangeSpec := { name := "fnExactInDict", fn := fun _ => fun
  | [d1, d2] => { results := [.lit (.bool true)], args := [d1, d2] }
  | _ => none }
def fnExactInDictRow : OpenClaim := { program := "ytkgkommlfceneaa", sum := "52b5da2bc204d7cea46859fb199139d6060382bf52f2b7dcfe475dcff11d343b", func := "loop.example/g00496/laws.FnExactInDict", spec := "fnExactInDict", apart := false }
def FnExactInDictSaid : Prop := fnExactInDictRow.holds Try.pinned (OpenSpec.ofChange fnExactInDictSpec)

/-- ITS FALSE NEIGHBOUR: 'it returns false'. Refute it at one input. -/
def fnExactInDictWrong : ChangeSpec := { name := "fnExactInDict", fn := fun _ => fun
  | [d1, d2] => { results := [.lit (.bool false)], args := [d1, d2] }
  | _ => none }
def FnExactInDictWrongFalsely : Prop := fnExactInDictRow.holds Try.pinned (OpenSpec.ofChange fnExactInDictWrong)

/-- 'laws.FnExactDecDict': WHATEVER THE INPUT: true; the input reads as it did. -/
def fnExactDecDictSpec : ChangeSpec := { name := "fnExactDecDict", fn := fun _ => fun
  | [d1, d2, d3] => { results := [.lit (.bool true)], args := [d1, d2, d3] }
  | _ => none }
def fnExactDecDictRow : OpenClaim := { program := "ytkgkommlfceneaa", sum := "52b5da2bc204d7cea46859fb199139d6060382bf52f2b7dcfe475dcff11d343b", func := "loop.example/g00496/laws.FnExactDecDict", spec := "fnExactDecDict", unfollowed := true, recurses := true, apart := false }
def FnExactDecDictSaid : Prop := fnExactDecDictRow.holds Try.pinned (OpenSpec.ofChange fnExactDecDictSpec)

/-- ITS FALSE NEIGHBOUR: 'it returns false'. Refute it at one input. -/
def fnExactDecDictWrong : ChangeSpec := { name := "fnExactDecDict", fn := fun _ => fun
  | [d1, d2, d3] => { results := [.lit (.bool false)], args := [d1, d2, d3] }
  | _ => none }
def FnExactDecDictWrongFalsely : Prop := fnExactDecDictRow.holds Try.pinned (OpenSpec.ofChange fnExactDecDictWrong)

/-- 'laws.FnExactTurns': WHATEVER THE INPUT: true; the input reads as it did. -/
def fnExactTurnsSpec : ChangeSpec := { name := "fnExactTurns", fn := fun _ => fun
  | [d] => { results := [.lit (.bool true)], args := [d] }
  | _ => none }
def fnExactTurnsRow : OpenClaim := { program := "ytkgkommlfceneaa", sum := "52b5da2bc204d7cea46859fb199139d6060382bf52f2b7dcfe475dcff11d343b", func := "loop.example/g00496/laws.FnExactTurns", spec := "fnExactTurns", apart := false }
def FnExactTurnsSaid : Prop := fnExactTurnsRow.holds Try.pinned (OpenSpec.ofChange fnExactTurnsSpec)

/-- ITS FALSE NEIGHBOUR: 'it returns false'. Refute it at one input. -/
def fnExactTurnsWrong : ChangeSpec := { name := "fnExactTurns", fn := fun _ => fun
  | [d] => { results := [.lit (.bool false)], args := [d] }
  | _ => none }
def FnExactTurnsWrongFalsely : Prop := fnExactTurnsRow.holds Try.pinned (OpenSpec.ofChange fnExactTurnsWrong)

/-- 'laws.FnExactLongestRun': WHATEVER THE INPUT: true; the input reads as it did. -/
def fnExactLongestRunSpec : ChangeSpec := { name := "fnExactLongestRun", fn := fun _ => fun
  | [d] => { results := [.lit (.bool true)], args := [d] }
  | _ => none }
def fnExactLongestRunRow : OpenClaim := { program := "ytkgkommlfceneaa", sum := "52b5da2bc204d7cea46859fb199139d6060382bf52f2b7dcfe475dcff11d343b", func := "loop.example/g00496/laws.FnExactLongestRun", spec := "fnExactLongestRun", apart := false }
def FnExactLongestRunSaid : Prop := fnExactLongestRunRow.holds Try.pinned (OpenSpec.ofChange fnExactLongestRunSpec)

/-- ITS FALSE NEIGHBOUR: 'it returns false'. Refute it at one input. -/
def fnExactLongestRunWrong : ChangeSpec := { name := "fnExactLongestRun", fn := fun _ => fun
  | [d] => { results := [.lit (.bool false)], args := [d] }
  | _ => none }
def FnExactLongestRunWrongFalsely : Prop := fnExactLongestRunRow.holds Try.pinned (OpenSpec.ofChange fnExactLongestRunWrong)

/-- 'laws.FnExactSameRow': WHATEVER THE INPUT: true; the input reads as it did. -/
def fnExactSameRowSpec : ChangeSpec := { name := "fnExactSameRow", fn := fun _ => fun
  | [d1, d2] => { results := [.lit (.bool true)], args := [d1, d2] }
  | _ => none }
def fnExactSameRowRow : OpenClaim := { program := "ytkgkommlfceneaa", sum := "52b5da2bc204d7cea46859fb199139d6060382bf52f2b7dcfe475dcff11d343b", func := "loop.example/g00496/laws.FnExactSameRow", spec := "fnExactSameRow", apart := false }
def FnExactSameRowSaid : Prop := fnExactSameRowRow.holds Try.pinned (OpenSpec.ofChange fnExactSameRowSpec)

/-- ITS FALSE NEIGHBOUR: 'it returns false'. Refute it at one input. -/
def fnExactSameRowWrong : ChangeSpec := { name := "fnExactSameRow", fn := fun _ => fun
  | [d1, d2] => { results := [.lit (.bool false)], args := [d1, d2] }
  | _ => none }
def FnExactSameRowWrongFalsely : Prop := fnExactSameRowRow.holds Try.pinned (OpenSpec.ofChange fnExactSameRowWrong)

/-- 'laws.FnExactPackBits': WHATEVER THE INPUT: true; the input reads as it did. -/
def fnExactPackBitsSpec : ChangeSpec := { name := "fnExactPackBits", fn := fun _ => fun
  | [d1, d2] => { results := [.lit (.bool true)], args := [d1, d2] }
  | _ => none }
def fnExactPackBitsRow : OpenClaim := { program := "ytkgkommlfceneaa", sum := "52b5da2bc204d7cea46859fb199139d6060382bf52f2b7dcfe475dcff11d343b", func := "loop.example/g00496/laws.FnExactPackBits", spec := "fnExactPackBits", apart := false }
def FnExactPackBitsSaid : Prop := fnExactPackBitsRow.holds Try.pinned (OpenSpec.ofChange fnExactPackBitsSpec)

/-- ITS FALSE NEIGHBOUR: 'it returns false'. Refute it at one input. -/
def fnExactPackBitsWrong : ChangeSpec := { name := "fnExactPackBits", fn := fun _ => fun
  | [d1, d2] => { results := [.lit (.bool false)], args := [d1, d2] }
  | _ => none }
def FnExactPackBitsWrongFalsely : Prop := fnExactPackBitsRow.holds Try.pinned (OpenSpec.ofChange fnExactPackBitsWrong)

/-- 'laws.FnNums': WHATEVER THE INPUT: true; the input reads as it did. -/
def fnNumsSpec : ChangeSpec := { name := "fnNums", fn := fun _ => fun
  | [d] => { results := [.lit (.bool true)], args := [d] }
  | _ => none }
def fnNumsRow : OpenClaim := { program := "ytkgkommlfceneaa", sum := "52b5da2bc204d7cea46859fb199139d6060382bf52f2b7dcfe475dcff11d343b", func := "loop.example/g00496/laws.FnNums", spec := "fnNums", apart := false }
def FnNumsSaid : Prop := fnNumsRow.holds Try.pinned (OpenSpec.ofChange fnNumsSpec)

/-- ITS FALSE NEIGHBOUR: 'it returns false'. Refute it at one input. -/
def fnNumsWrong : ChangeSpec := { name := "fnNums", fn := fun _ => fun
  | [d] => { results := [.lit (.bool false)], args := [d] }
  | _ => none }
def FnNumsWrongFalsely : Prop := fnNumsRow.holds Try.pinned (OpenSpec.ofChange fnNumsWrong)

/-- 'laws.FnNumsBent': WHATEVER THE INPUT: true; the input reads as it did. -/
def fnNumsBentSpec : ChangeSpec := { name := "fnNumsBent", fn := fun _ => fun
  | [d] => { results := [.lit (.bool true)], args := [d] }
  | _ => none }
def fnNumsBentRow : OpenClaim := { program := "ytkgkommlfceneaa", sum := "52b5da2bc204d7cea46859fb199139d6060382bf52f2b7dcfe475dcff11d343b", func := "loop.example/g00496/laws.FnNumsBent", spec := "fnNumsBent", apart := false }
def FnNumsBentSaid : Prop := fnNumsBentRow.holds Try.pinned (OpenSpec.ofChange fnNumsBentSpec)

/-- ITS FALSE NEIGHBOUR: 'it returns false'. Refute it at one input. -/
def fnNumsBentWrong : ChangeSpec := { name := "fnNumsBent", fn := fun _ => fun
  | [d] => { results := [.lit (.bool false)], args := [d] }
  | _ => none }
def FnNumsBentWrongFalsely : Prop := fnNumsBentRow.holds Try.pinned (OpenSpec.ofChange fnNumsBentWrong)

/-- 'laws.FnPlains': WHATEVER THE INPUT: true; the input reads as it did. -/
def fnPlainsSpec : ChangeSpec := { name := "fnPlains", fn := fun _ => fun
  | [d] => { results := [.lit (.bool true)], args := [d] }
  | _ => none }
def fnPlainsRow : OpenClaim := { program := "ytkgkommlfceneaa", sum := "52b5da2bc204d7cea46859fb199139d6060382bf52f2b7dcfe475dcff11d343b", func := "loop.example/g00496/laws.FnPlains", spec := "fnPlains", apart := false }
def FnPlainsSaid : Prop := fnPlainsRow.holds Try.pinned (OpenSpec.ofChange fnPlainsSpec)

/-- ITS FALSE NEIGHBOUR: 'it returns false'. Refute it at one input. -/
def fnPlainsWrong : ChangeSpec := { name := "fnPlains", fn := fun _ => fun
  | [d] => { results := [.lit (.bool false)], args := [d] }
  | _ => none }
def FnPlainsWrongFalsely : Prop := fnPlainsRow.holds Try.pinned (OpenSpec.ofChange fnPlainsWrong)

/-- 'laws.FnExactDecRuns': WHATEVER THE INPUT: true; the input reads as it did. -/
def fnExactDecRunsSpec : ChangeSpec := { name := "fnExactDecRuns", fn := fun _ => fun
  | [d1, d2, d3] => { results := [.lit (.bool true)], args := [d1, d2, d3] }
  | _ => none }
def fnExactDecRunsRow : OpenClaim := { program := "ytkgkommlfceneaa", sum := "52b5da2bc204d7cea46859fb199139d6060382bf52f2b7dcfe475dcff11d343b", func := "loop.example/g00496/laws.FnExactDecRuns", spec := "fnExactDecRuns", apart := false }
def FnExactDecRunsSaid : Prop := fnExactDecRunsRow.holds Try.pinned (OpenSpec.ofChange fnExactDecRunsSpec)

/-- ITS FALSE NEIGHBOUR: 'it returns false'. Refute it at one input. -/
def fnExactDecRunsWrong : ChangeSpec := { name := "fnExactDecRuns", fn := fun _ => fun
  | [d1, d2, d3] => { results := [.lit (.bool false)], args := [d1, d2, d3] }
  | _ => none }
def FnExactDecRunsWrongFalsely : Prop := fnExactDecRunsRow.holds Try.pinned (OpenSpec.ofChange fnExactDecRunsWrong)

/-- 'laws.FnExactDict': WHATEVER THE INPUT: true; the input reads as it did. -/
def fnExactDictSpec : ChangeSpec := { name := "fnExactDict", fn := fun _ => fun
  | [d] => { results := [.lit (.bool true)], args := [d] }
  | _ => none }
def fnExactDictRow : OpenClaim := { program := "ytkgkommlfceneaa", sum := "52b5da2bc204d7cea46859fb199139d6060382bf52f2b7dcfe475dcff11d343b", func := "loop.example/g00496/laws.FnExactDict", spec := "fnExactDict", unfollowed := true, recurses := true, apart := false }
def FnExactDictSaid : Prop := fnExactDictRow.holds Try.pinned (OpenSpec.ofChange fnExactDictSpec)

/-- ITS FALSE NEIGHBOUR: 'it returns false'. Refute it at one input. -/
def fnExactDictWrong : ChangeSpec := { name := "fnExactDict", fn := fun _ => fun
  | [d] => { results := [.lit (.bool false)], args := [d] }
  | _ => none }
def FnExactDictWrongFalsely : Prop := fnExactDictRow.holds Try.pinned (OpenSpec.ofChange fnExactDictWrong)

/-- 'laws.FnExactEncDict': WHATEVER THE INPUT: true; the input reads as it did. -/
def fnExactEncDictSpec : ChangeSpec := { name := "fnExactEncDict", fn := fun _ => fun
  | [d] => { results := [.lit (.bool true)], args := [d] }
  | _ => none }
def fnExactEncDictRow : OpenClaim := { program := "ytkgkommlfceneaa", sum := "52b5da2bc204d7cea46859fb199139d6060382bf52f2b7dcfe475dcff11d343b", func := "loop.example/g00496/laws.FnExactEncDict", spec := "fnExactEncDict", unfollowed := true, recurses := true, apart := false }
def FnExactEncDictSaid : Prop := fnExactEncDictRow.holds Try.pinned (OpenSpec.ofChange fnExactEncDictSpec)

/-- ITS FALSE NEIGHBOUR: 'it returns false'. Refute it at one input. -/
def fnExactEncDictWrong : ChangeSpec := { name := "fnExactEncDict", fn := fun _ => fun
  | [d] => { results := [.lit (.bool false)], args := [d] }
  | _ => none }
def FnExactEncDictWrongFalsely : Prop := fnExactEncDictRow.holds Try.pinned (OpenSpec.ofChange fnExactEncDictWrong)

/- THE SECOND FORM. 'bulk': how many values and letters a reading holds, each counted each time it is reached (what is shared counts as often as it is met; a slice's spare places count too). A statement '..UptoSaid' is the law's where the arguments, and the package variables that the reading takes, are together of bulk at most 1048576: NARROWER than '..Said'. Prove '..Said' where nothing that the law and all that it calls make is longer than what came in: it says more and counts as full. Else prove '..UptoSaid'. A law counts once. -/
mutual
def uptoBulk {H : Type} : DataW H → Nat
  | .lit (.string bytes) => bytes.length + 1
  | .lit _ => 1
  | .nil => 1
  | .ptr d => uptoBulk d + 1
  | .slice elems spare => uptoBulkAll elems + uptoBulkAll spare + 1
  | .agg parts => uptoBulkAll parts + 1
  | .iface _ d => uptoBulk d + 1
  | .map entries => uptoBulkEntries entries + 1
  | .held _ => 1
def uptoBulkAll {H : Type} : List (DataW H) → Nat
  | [] => 0
  | d :: r => uptoBulk d + uptoBulkAll r
def uptoBulkEntries {H : Type} : List (Lit × DataW H) → Nat
  | [] => 0
  | x :: r => uptoBulkEntry x + uptoBulkEntries r
def uptoBulkEntry {H : Type} : Lit × DataW H → Nat
  | (.string bytes, d) => bytes.length + uptoBulk d + 1
  | (_, d) => uptoBulk d + 1
 end
def uptoSmall : (H : Type) → List (DataW H) → Bool := fun _ ds => decide (uptoBulkAll ds ≤ 1048576)
def OpenSpec.upto (s : _root_.Go.ChangeSpec) : _root_.Go.OpenSpec := { _root_.Go.OpenSpec.ofChange s with cond := some uptoSmall }

/-- 'laws.FnExactInDict', WHERE WHAT IT READS IS OF BULK AT MOST 1048576: true; the input reads as it did. -/
def fnExactInDictUptoRow : OpenClaim := { program := "ytkgkommlfceneaa", sum := "52b5da2bc204d7cea46859fb199139d6060382bf52f2b7dcfe475dcff11d343b", func := "loop.example/g00496/laws.FnExactInDict", spec := "fnExactInDict", apart := false, narrowed := true }
def FnExactInDictUptoSaid : Prop := fnExactInDictUptoRow.holds Try.pinned (OpenSpec.upto fnExactInDictSpec)

/-- 'laws.FnExactDecDict', WHERE WHAT IT READS IS OF BULK AT MOST 1048576: true; the input reads as it did. -/
def fnExactDecDictUptoRow : OpenClaim := { program := "ytkgkommlfceneaa", sum := "52b5da2bc204d7cea46859fb199139d6060382bf52f2b7dcfe475dcff11d343b", func := "loop.example/g00496/laws.FnExactDecDict", spec := "fnExactDecDict", unfollowed := true, recurses := true, apart := false, narrowed := true }
def FnExactDecDictUptoSaid : Prop := fnExactDecDictUptoRow.holds Try.pinned (OpenSpec.upto fnExactDecDictSpec)

/-- 'laws.FnExactTurns', WHERE WHAT IT READS IS OF BULK AT MOST 1048576: true; the input reads as it did. -/
def fnExactTurnsUptoRow : OpenClaim := { program := "ytkgkommlfceneaa", sum := "52b5da2bc204d7cea46859fb199139d6060382bf52f2b7dcfe475dcff11d343b", func := "loop.example/g00496/laws.FnExactTurns", spec := "fnExactTurns", apart := false, narrowed := true }
def FnExactTurnsUptoSaid : Prop := fnExactTurnsUptoRow.holds Try.pinned (OpenSpec.upto fnExactTurnsSpec)

/-- 'laws.FnExactLongestRun', WHERE WHAT IT READS IS OF BULK AT MOST 1048576: true; the input reads as it did. -/
def fnExactLongestRunUptoRow : OpenClaim := { program := "ytkgkommlfceneaa", sum := "52b5da2bc204d7cea46859fb199139d6060382bf52f2b7dcfe475dcff11d343b", func := "loop.example/g00496/laws.FnExactLongestRun", spec := "fnExactLongestRun", apart := false, narrowed := true }
def FnExactLongestRunUptoSaid : Prop := fnExactLongestRunUptoRow.holds Try.pinned (OpenSpec.upto fnExactLongestRunSpec)

/-- 'laws.FnExactSameRow', WHERE WHAT IT READS IS OF BULK AT MOST 1048576: true; the input reads as it did. -/
def fnExactSameRowUptoRow : OpenClaim := { program := "ytkgkommlfceneaa", sum := "52b5da2bc204d7cea46859fb199139d6060382bf52f2b7dcfe475dcff11d343b", func := "loop.example/g00496/laws.FnExactSameRow", spec := "fnExactSameRow", apart := false, narrowed := true }
def FnExactSameRowUptoSaid : Prop := fnExactSameRowUptoRow.holds Try.pinned (OpenSpec.upto fnExactSameRowSpec)

/-- 'laws.FnExactPackBits', WHERE WHAT IT READS IS OF BULK AT MOST 1048576: true; the input reads as it did. -/
def fnExactPackBitsUptoRow : OpenClaim := { program := "ytkgkommlfceneaa", sum := "52b5da2bc204d7cea46859fb199139d6060382bf52f2b7dcfe475dcff11d343b", func := "loop.example/g00496/laws.FnExactPackBits", spec := "fnExactPackBits", apart := false, narrowed := true }
def FnExactPackBitsUptoSaid : Prop := fnExactPackBitsUptoRow.holds Try.pinned (OpenSpec.upto fnExactPackBitsSpec)

/-- 'laws.FnNums', WHERE WHAT IT READS IS OF BULK AT MOST 1048576: true; the input reads as it did. -/
def fnNumsUptoRow : OpenClaim := { program := "ytkgkommlfceneaa", sum := "52b5da2bc204d7cea46859fb199139d6060382bf52f2b7dcfe475dcff11d343b", func := "loop.example/g00496/laws.FnNums", spec := "fnNums", apart := false, narrowed := true }
def FnNumsUptoSaid : Prop := fnNumsUptoRow.holds Try.pinned (OpenSpec.upto fnNumsSpec)

/-- 'laws.FnNumsBent', WHERE WHAT IT READS IS OF BULK AT MOST 1048576: true; the input reads as it did. -/
def fnNumsBentUptoRow : OpenClaim := { program := "ytkgkommlfceneaa", sum := "52b5da2bc204d7cea46859fb199139d6060382bf52f2b7dcfe475dcff11d343b", func := "loop.example/g00496/laws.FnNumsBent", spec := "fnNumsBent", apart := false, narrowed := true }
def FnNumsBentUptoSaid : Prop := fnNumsBentUptoRow.holds Try.pinned (OpenSpec.upto fnNumsBentSpec)

/-- 'laws.FnPlains', WHERE WHAT IT READS IS OF BULK AT MOST 1048576: true; the input reads as it did. -/
def fnPlainsUptoRow : OpenClaim := { program := "ytkgkommlfceneaa", sum := "52b5da2bc204d7cea46859fb199139d6060382bf52f2b7dcfe475dcff11d343b", func := "loop.example/g00496/laws.FnPlains", spec := "fnPlains", apart := false, narrowed := true }
def FnPlainsUptoSaid : Prop := fnPlainsUptoRow.holds Try.pinned (OpenSpec.upto fnPlainsSpec)

/-- 'laws.FnExactDecRuns', WHERE WHAT IT READS IS OF BULK AT MOST 1048576: true; the input reads as it did. -/
def fnExactDecRunsUptoRow : OpenClaim := { program := "ytkgkommlfceneaa", sum := "52b5da2bc204d7cea46859fb199139d6060382bf52f2b7dcfe475dcff11d343b", func := "loop.example/g00496/laws.FnExactDecRuns", spec := "fnExactDecRuns", apart := false, narrowed := true }
def FnExactDecRunsUptoSaid : Prop := fnExactDecRunsUptoRow.holds Try.pinned (OpenSpec.upto fnExactDecRunsSpec)

/-- 'laws.FnExactDict', WHERE WHAT IT READS IS OF BULK AT MOST 1048576: true; the input reads as it did. -/
def fnExactDictUptoRow : OpenClaim := { program := "ytkgkommlfceneaa", sum := "52b5da2bc204d7cea46859fb199139d6060382bf52f2b7dcfe475dcff11d343b", func := "loop.example/g00496/laws.FnExactDict", spec := "fnExactDict", unfollowed := true, recurses := true, apart := false, narrowed := true }
def FnExactDictUptoSaid : Prop := fnExactDictUptoRow.holds Try.pinned (OpenSpec.upto fnExactDictSpec)

/-- 'laws.FnExactEncDict', WHERE WHAT IT READS IS OF BULK AT MOST 1048576: true; the input reads as it did. -/
def fnExactEncDictUptoRow : OpenClaim := { program := "ytkgkommlfceneaa", sum := "52b5da2bc204d7cea46859fb199139d6060382bf52f2b7dcfe475dcff11d343b", func := "loop.example/g00496/laws.FnExactEncDict", spec := "fnExactEncDict", unfollowed := true, recurses := true, apart := false, narrowed := true }
def FnExactEncDictUptoSaid : Prop := fnExactEncDictUptoRow.holds Try.pinned (OpenSpec.upto fnExactEncDictSpec)

end Rows
end Go.Proofs.Ytkgkommlfceneaa
