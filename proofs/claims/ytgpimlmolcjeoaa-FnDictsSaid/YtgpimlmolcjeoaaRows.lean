/-
  No cell of these rows narrows 'for every input' (looked for: loops, veiled, ifaces, maps, wideKeys, modest, calm, conditions, laid).
  DERIVED. THE GIVEN ROWS OF THIS SEAT. 4 by the template 'for every input the law returns true; each argument reads behind the call as it read before'; 0 by the template 'total and deterministic' (their statements: YtgpimlmolcjeoaaTotals.lean).
  GIVEN WITH THE SEED: the statements are not yours to turn. If you find one false, say at which input.
  Laid BY PROGRAM, IN A SANDBOX (cutbox-rows.mjs): the forced cells as the released guide's own fill.sh prints them over the translation cb96e5e22566883b… (all of the seat's roots in one cut). By AI agents, Wed Nov 11 2026. No macro, syntax, notation, axiom, sorry.
-/
import Derived.Test.YtgpimlmolcjeoaaChecked
import GoSem.Claim
import GoSem.ClaimJoined
import GoSem.ClaimMapViews
import Derived.JoinedTies
import Derived.KernelRfl
namespace Go.Proofs.Ytgpimlmolcjeoaa
/- THE CELL 'sum', in the pinned program and in every row, IS THE sha256 OF THE DUMP (.gsa) THAT YtgpimlmolcjeoaaProg.lean LOADS. Nothing in Lean hashes anything: it is a label: what it is worth is what the hold of that sum in a sandbox is worth. -/
noncomputable def Try.pinned : Pinned := { name := "ytgpimlmolcjeoaa", sum := "cb96e5e22566883b47ce7dcb3a74ffb1e3424d92e738fbd0ed537a9597d1e0df", checked := Try.checked }
namespace Rows
def none {H : Type} : Left H := { results := [], args := [] }

/-- 'laws.FnDicts': WHATEVER THE INPUT: true; the input reads as it did. -/
def fnDictsSpec : ChangeSpec := { name := "fnDicts", fn := fun _ => fun
  | [d] => { results := [.lit (.bool true)], args := [d] }
  | _ => none }
def fnDictsRow : OpenClaim := { program := "ytgpimlmolcjeoaa", sum := "cb96e5e22566883b47ce7dcb3a74ffb1e3424d92e738fbd0ed537a9597d1e0df", func := "loop.example/g00496/laws.FnDicts", spec := "fnDicts", unfollowed := true, recurses := true, apart := false }
def FnDictsSaid : Prop := fnDictsRow.holds Try.pinned (OpenSpec.ofChange fnDictsSpec)

/-- ITS FALSE NEIGHBOUR: 'it returns false'. Refute it at one input. -/
def fnDictsWrong : ChangeSpec := { name := "fnDicts", fn := fun _ => fun
  | [d] => { results := [.lit (.bool false)], args := [d] }
  | _ => none }
def FnDictsWrongFalsely : Prop := fnDictsRow.holds Try.pinned (OpenSpec.ofChange fnDictsWrong)

/-- 'laws.FnRuns': WHATEVER THE INPUT: true; the input reads as it did. -/
def fnRunsSpec : ChangeSpec := { name := "fnRuns", fn := fun _ => fun
  | [d] => { results := [.lit (.bool true)], args := [d] }
  | _ => none }
def fnRunsRow : OpenClaim := { program := "ytgpimlmolcjeoaa", sum := "cb96e5e22566883b47ce7dcb3a74ffb1e3424d92e738fbd0ed537a9597d1e0df", func := "loop.example/g00496/laws.FnRuns", spec := "fnRuns", apart := false }
def FnRunsSaid : Prop := fnRunsRow.holds Try.pinned (OpenSpec.ofChange fnRunsSpec)

/-- ITS FALSE NEIGHBOUR: 'it returns false'. Refute it at one input. -/
def fnRunsWrong : ChangeSpec := { name := "fnRuns", fn := fun _ => fun
  | [d] => { results := [.lit (.bool false)], args := [d] }
  | _ => none }
def FnRunsWrongFalsely : Prop := fnRunsRow.holds Try.pinned (OpenSpec.ofChange fnRunsWrong)

/-- 'laws.FnPlainsBent': WHATEVER THE INPUT: true; the input reads as it did. -/
def fnPlainsBentSpec : ChangeSpec := { name := "fnPlainsBent", fn := fun _ => fun
  | [d] => { results := [.lit (.bool true)], args := [d] }
  | _ => none }
def fnPlainsBentRow : OpenClaim := { program := "ytgpimlmolcjeoaa", sum := "cb96e5e22566883b47ce7dcb3a74ffb1e3424d92e738fbd0ed537a9597d1e0df", func := "loop.example/g00496/laws.FnPlainsBent", spec := "fnPlainsBent", apart := false }
def FnPlainsBentSaid : Prop := fnPlainsBentRow.holds Try.pinned (OpenSpec.ofChange fnPlainsBentSpec)

/-- ITS FALSE NEIGHBOUR: 'it returns false'. Refute it at one input. -/
def fnPlainsBentWrong : ChangeSpec := { name := "fnPlainsBent", fn := fun _ => fun
  | [d] => { results := [.lit (.bool false)], args := [d] }
  | _ => none }
def FnPlainsBentWrongFalsely : Prop := fnPlainsBentRow.holds Try.pinned (OpenSpec.ofChange fnPlainsBentWrong)

/-- 'laws.FnRunsBent': WHATEVER THE INPUT: true; the input reads as it did. -/
def fnRunsBentSpec : ChangeSpec := { name := "fnRunsBent", fn := fun _ => fun
  | [d] => { results := [.lit (.bool true)], args := [d] }
  | _ => none }
def fnRunsBentRow : OpenClaim := { program := "ytgpimlmolcjeoaa", sum := "cb96e5e22566883b47ce7dcb3a74ffb1e3424d92e738fbd0ed537a9597d1e0df", func := "loop.example/g00496/laws.FnRunsBent", spec := "fnRunsBent", apart := false }
def FnRunsBentSaid : Prop := fnRunsBentRow.holds Try.pinned (OpenSpec.ofChange fnRunsBentSpec)

/-- ITS FALSE NEIGHBOUR: 'it returns false'. Refute it at one input. -/
def fnRunsBentWrong : ChangeSpec := { name := "fnRunsBent", fn := fun _ => fun
  | [d] => { results := [.lit (.bool false)], args := [d] }
  | _ => none }
def FnRunsBentWrongFalsely : Prop := fnRunsBentRow.holds Try.pinned (OpenSpec.ofChange fnRunsBentWrong)

/- THE SECOND FORM. 'bulk': how many values and letters a reading holds, each counted each time it is reached (what is shared counts as often as it is met; a slice's spare places count too). A statement '..UptoSaid' is the law's where the arguments, and the package variables that the reading takes, are together of bulk at most 1048576: NARROWER than '..Said'. Prove '..Said' where nothing that the law and all that it calls make is longer than what came in: it says more and counts as full. Else prove '..UptoSaid'. A law counts once. -/
mutual
def uptoBulk {H : Type} : DataW H → Nat
  | .lit (.string bytes) => bytes.length + 1
  | .lit _ => 1
  | .nil => 1
  | .ptr d => uptoBulk d + 1
  | .slice elems spare => uptoBulkAll elems + uptoBulkAll spare + 1
  | .agg parts => uptoBulkAll parts + 1
  | .iface _ d => uptoBulk d + 1
  | .map entries => uptoBulkEntries entries + 1
  | .held _ => 1
def uptoBulkAll {H : Type} : List (DataW H) → Nat
  | [] => 0
  | d :: r => uptoBulk d + uptoBulkAll r
def uptoBulkEntries {H : Type} : List (Lit × DataW H) → Nat
  | [] => 0
  | x :: r => uptoBulkEntry x + uptoBulkEntries r
def uptoBulkEntry {H : Type} : Lit × DataW H → Nat
  | (.string bytes, d) => bytes.length + uptoBulk d + 1
  | (_, d) => uptoBulk d + 1
 end
def uptoSmall : (H : Type) → List (DataW H) → Bool := fun _ ds => decide (uptoBulkAll ds ≤ 1048576)
def OpenSpec.upto (s : _root_.Go.ChangeSpec) : _root_.Go.OpenSpec := { _root_.Go.OpenSpec.ofChange s with cond := some uptoSmall }

/-- 'laws.FnDicts', WHERE WHAT IT READS IS OF BULK AT MOST 1048576: true; the input reads as it did. -/
def fnDictsUptoRow : OpenClaim := { program := "ytgpimlmolcjeoaa", sum := "cb96e5e22566883b47ce7dcb3a74ffb1e3424d92e738fbd0ed537a9597d1e0df", func := "loop.example/g00496/laws.FnDicts", spec := "fnDicts", unfollowed := true, recurses := true, apart := false, narrowed := true }
def FnDictsUptoSaid : Prop := fnDictsUptoRow.holds Try.pinned (OpenSpec.upto fnDictsSpec)

/-- 'laws.FnRuns', WHERE WHAT IT READS IS OF BULK AT MOST 1048576: true; the input reads as it did. -/
def fnRunsUptoRow : OpenClaim := { program := "ytgpimlmolcjeoaa", sum := "cb96e5e22566883b47ce7dcb3a74ffb1e3424d92e738fbd0ed537a9597d1e0df", func := "loop.example/g00496/laws.FnRuns", spec := "fnRuns", apart := false, narrowed := true }
def FnRunsUptoSaid : Prop := fnRunsUptoRow.holds Try.pinned (OpenSpec.upto fnRunsSpec)

/-- 'laws.FnPlainsBent', WHERE WHAT IT READS IS OF BULK AT MOST 1048576: true; the input reads as it did. -/
def fnPlainsBentUptoRow : OpenClaim := { program := "ytgpimlmolcjeoaa", sum := "cb96e5e22566883b47ce7dcb3a74ffb1e3424d92e738fbd0ed537a9597d1e0df", func := "loop.example/g00496/laws.FnPlainsBent", spec := "fnPlainsBent", apart := false, narrowed := true }
def FnPlainsBentUptoSaid : Prop := fnPlainsBentUptoRow.holds Try.pinned (OpenSpec.upto fnPlainsBentSpec)

/-- 'laws.FnRunsBent', WHERE WHAT IT READS IS OF BULK AT MOST 1048576: true; the input reads as it did. -/
def fnRunsBentUptoRow : OpenClaim := { program := "ytgpimlmolcjeoaa", sum := "cb96e5e22566883b47ce7dcb3a74ffb1e3424d92e738fbd0ed537a9597d1e0df", func := "loop.example/g00496/laws.FnRunsBent", spec := "fnRunsBent", apart := false, narrowed := true }
def FnRunsBentUptoSaid : Prop := fnRunsBentUptoRow.holds Try.pinned (OpenSpec.upto fnRunsBentSpec)

end Rows
end Go.Proofs.Ytgpimlmolcjeoaa
