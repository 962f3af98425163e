/-
  No cell of these rows narrows 'for every input' (looked for: loops, veiled, ifaces, maps, wideKeys, modest, calm, conditions, laid).
  DERIVED. THE GIVEN ROWS OF THIS SEAT. 8 by the template 'for every input the law returns true; each argument reads behind the call as it read before'; 0 by the template 'total and deterministic' (their statements: YtbmgfcoiailolaaTotals.lean).
  GIVEN WITH THE SEED: the statements are not yours to turn. If you find one false, say at which input.
  Laid BY PROGRAM, IN A SANDBOX (cutbox-rows.mjs): the forced cells as the released guide's own fill.sh prints them over the translation 5d8940ec490a9c42… (all of the seat's roots in one cut). By AI agents, Wed Nov 11 2026. No macro, syntax, notation, axiom, sorry.
-/
import Derived.Test.YtbmgfcoiailolaaChecked
import GoSem.Claim
import GoSem.ClaimJoined
import GoSem.ClaimMapViews
import Derived.JoinedTies
import Derived.KernelRfl
namespace Go.Proofs.Ytbmgfcoiailolaa
/- THE CELL 'sum', in the pinned program and in every row, IS THE sha256 OF THE DUMP (.gsa) THAT YtbmgfcoiailolaaProg.lean LOADS. Nothing in Lean hashes anything: it is a label: what it is worth is what the hold of that sum in a sandbox is worth. -/
noncomputable def Try.pinned : Pinned := { name := "ytbmgfcoiailolaa", sum := "5d8940ec490a9c42e81d9be366afefb4d7810563b6032d2757c567902fe63453", checked := Try.checked }
namespace Rows
def none {H : Type} : Left H := { results := [], args := [] }

/-- 'laws.FnExactPutNum': WHATEVER THE INPUT: true; the input reads as it did. -/
def fnExactPutNumSpec : ChangeSpec := { name := "fnExactPutNum", fn := fun _ => fun
  | [d1, d2] => { results := [.lit (.bool true)], args := [d1, d2] }
  | _ => none }
def fnExactPutNumRow : OpenClaim := { program := "ytbmgfcoiailolaa", sum := "5d8940ec490a9c42e81d9be366afefb4d7810563b6032d2757c567902fe63453", func := "loop.example/g00496/laws.FnExactPutNum", spec := "fnExactPutNum", apart := false }
def FnExactPutNumSaid : Prop := fnExactPutNumRow.holds Try.pinned (OpenSpec.ofChange fnExactPutNumSpec)

/-- ITS FALSE NEIGHBOUR: 'it returns false'. Refute it at one input. -/
def fnExactPutNumWrong : ChangeSpec := { name := "fnExactPutNum", fn := fun _ => fun
  | [d1, d2] => { results := [.lit (.bool false)], args := [d1, d2] }
  | _ => none }
def FnExactPutNumWrongFalsely : Prop := fnExactPutNumRow.holds Try.pinned (OpenSpec.ofChange fnExactPutNumWrong)

/-- 'laws.FnExactWidthFor': WHATEVER THE INPUT: true; the input reads as it did. -/
def fnExactWidthForSpec : ChangeSpec := { name := "fnExactWidthFor", fn := fun _ => fun
  | [d] => { results := [.lit (.bool true)], args := [d] }
  | _ => none }
def fnExactWidthForRow : OpenClaim := { program := "ytbmgfcoiailolaa", sum := "5d8940ec490a9c42e81d9be366afefb4d7810563b6032d2757c567902fe63453", func := "loop.example/g00496/laws.FnExactWidthFor", spec := "fnExactWidthFor", apart := false }
def FnExactWidthForSaid : Prop := fnExactWidthForRow.holds Try.pinned (OpenSpec.ofChange fnExactWidthForSpec)

/-- ITS FALSE NEIGHBOUR: 'it returns false'. Refute it at one input. -/
def fnExactWidthForWrong : ChangeSpec := { name := "fnExactWidthFor", fn := fun _ => fun
  | [d] => { results := [.lit (.bool false)], args := [d] }
  | _ => none }
def FnExactWidthForWrongFalsely : Prop := fnExactWidthForRow.holds Try.pinned (OpenSpec.ofChange fnExactWidthForWrong)

/-- 'laws.FnExactUnpackBits': WHATEVER THE INPUT: true; the input reads as it did. -/
def fnExactUnpackBitsSpec : ChangeSpec := { name := "fnExactUnpackBits", fn := fun _ => fun
  | [d1, d2, d3] => { results := [.lit (.bool true)], args := [d1, d2, d3] }
  | _ => none }
def fnExactUnpackBitsRow : OpenClaim := { program := "ytbmgfcoiailolaa", sum := "5d8940ec490a9c42e81d9be366afefb4d7810563b6032d2757c567902fe63453", func := "loop.example/g00496/laws.FnExactUnpackBits", spec := "fnExactUnpackBits", apart := false }
def FnExactUnpackBitsSaid : Prop := fnExactUnpackBitsRow.holds Try.pinned (OpenSpec.ofChange fnExactUnpackBitsSpec)

/-- ITS FALSE NEIGHBOUR: 'it returns false'. Refute it at one input. -/
def fnExactUnpackBitsWrong : ChangeSpec := { name := "fnExactUnpackBits", fn := fun _ => fun
  | [d1, d2, d3] => { results := [.lit (.bool false)], args := [d1, d2, d3] }
  | _ => none }
def FnExactUnpackBitsWrongFalsely : Prop := fnExactUnpackBitsRow.holds Try.pinned (OpenSpec.ofChange fnExactUnpackBitsWrong)

/-- 'laws.FnExactPutNums': WHATEVER THE INPUT: true; the input reads as it did. -/
def fnExactPutNumsSpec : ChangeSpec := { name := "fnExactPutNums", fn := fun _ => fun
  | [d1, d2] => { results := [.lit (.bool true)], args := [d1, d2] }
  | _ => none }
def fnExactPutNumsRow : OpenClaim := { program := "ytbmgfcoiailolaa", sum := "5d8940ec490a9c42e81d9be366afefb4d7810563b6032d2757c567902fe63453", func := "loop.example/g00496/laws.FnExactPutNums", spec := "fnExactPutNums", apart := false }
def FnExactPutNumsSaid : Prop := fnExactPutNumsRow.holds Try.pinned (OpenSpec.ofChange fnExactPutNumsSpec)

/-- ITS FALSE NEIGHBOUR: 'it returns false'. Refute it at one input. -/
def fnExactPutNumsWrong : ChangeSpec := { name := "fnExactPutNums", fn := fun _ => fun
  | [d1, d2] => { results := [.lit (.bool false)], args := [d1, d2] }
  | _ => none }
def FnExactPutNumsWrongFalsely : Prop := fnExactPutNumsRow.holds Try.pinned (OpenSpec.ofChange fnExactPutNumsWrong)

/-- 'laws.FnExactGetNums': WHATEVER THE INPUT: true; the input reads as it did. -/
def fnExactGetNumsSpec : ChangeSpec := { name := "fnExactGetNums", fn := fun _ => fun
  | [d1, d2] => { results := [.lit (.bool true)], args := [d1, d2] }
  | _ => none }
def fnExactGetNumsRow : OpenClaim := { program := "ytbmgfcoiailolaa", sum := "5d8940ec490a9c42e81d9be366afefb4d7810563b6032d2757c567902fe63453", func := "loop.example/g00496/laws.FnExactGetNums", spec := "fnExactGetNums", apart := false }
def FnExactGetNumsSaid : Prop := fnExactGetNumsRow.holds Try.pinned (OpenSpec.ofChange fnExactGetNumsSpec)

/-- ITS FALSE NEIGHBOUR: 'it returns false'. Refute it at one input. -/
def fnExactGetNumsWrong : ChangeSpec := { name := "fnExactGetNums", fn := fun _ => fun
  | [d1, d2] => { results := [.lit (.bool false)], args := [d1, d2] }
  | _ => none }
def FnExactGetNumsWrongFalsely : Prop := fnExactGetNumsRow.holds Try.pinned (OpenSpec.ofChange fnExactGetNumsWrong)

/-- 'laws.FnExactPackBits': WHATEVER THE INPUT: true; the input reads as it did. -/
def fnExactPackBitsSpec : ChangeSpec := { name := "fnExactPackBits", fn := fun _ => fun
  | [d1, d2] => { results := [.lit (.bool true)], args := [d1, d2] }
  | _ => none }
def fnExactPackBitsRow : OpenClaim := { program := "ytbmgfcoiailolaa", sum := "5d8940ec490a9c42e81d9be366afefb4d7810563b6032d2757c567902fe63453", func := "loop.example/g00496/laws.FnExactPackBits", spec := "fnExactPackBits", apart := false }
def FnExactPackBitsSaid : Prop := fnExactPackBitsRow.holds Try.pinned (OpenSpec.ofChange fnExactPackBitsSpec)

/-- ITS FALSE NEIGHBOUR: 'it returns false'. Refute it at one input. -/
def fnExactPackBitsWrong : ChangeSpec := { name := "fnExactPackBits", fn := fun _ => fun
  | [d1, d2] => { results := [.lit (.bool false)], args := [d1, d2] }
  | _ => none }
def FnExactPackBitsWrongFalsely : Prop := fnExactPackBitsRow.holds Try.pinned (OpenSpec.ofChange fnExactPackBitsWrong)

/-- 'laws.FnNums': WHATEVER THE INPUT: true; the input reads as it did. -/
def fnNumsSpec : ChangeSpec := { name := "fnNums", fn := fun _ => fun
  | [d] => { results := [.lit (.bool true)], args := [d] }
  | _ => none }
def fnNumsRow : OpenClaim := { program := "ytbmgfcoiailolaa", sum := "5d8940ec490a9c42e81d9be366afefb4d7810563b6032d2757c567902fe63453", func := "loop.example/g00496/laws.FnNums", spec := "fnNums", apart := false }
def FnNumsSaid : Prop := fnNumsRow.holds Try.pinned (OpenSpec.ofChange fnNumsSpec)

/-- ITS FALSE NEIGHBOUR: 'it returns false'. Refute it at one input. -/
def fnNumsWrong : ChangeSpec := { name := "fnNums", fn := fun _ => fun
  | [d] => { results := [.lit (.bool false)], args := [d] }
  | _ => none }
def FnNumsWrongFalsely : Prop := fnNumsRow.holds Try.pinned (OpenSpec.ofChange fnNumsWrong)

/-- 'laws.FnNumsBent': WHATEVER THE INPUT: true; the input reads as it did. -/
def fnNumsBentSpec : ChangeSpec := { name := "fnNumsBent", fn := fun _ => fun
  | [d] => { results := [.lit (.bool true)], args := [d] }
  | _ => none }
def fnNumsBentRow : OpenClaim := { program := "ytbmgfcoiailolaa", sum := "5d8940ec490a9c42e81d9be366afefb4d7810563b6032d2757c567902fe63453", func := "loop.example/g00496/laws.FnNumsBent", spec := "fnNumsBent", apart := false }
def FnNumsBentSaid : Prop := fnNumsBentRow.holds Try.pinned (OpenSpec.ofChange fnNumsBentSpec)

/-- ITS FALSE NEIGHBOUR: 'it returns false'. Refute it at one input. -/
def fnNumsBentWrong : ChangeSpec := { name := "fnNumsBent", fn := fun _ => fun
  | [d] => { results := [.lit (.bool false)], args := [d] }
  | _ => none }
def FnNumsBentWrongFalsely : Prop := fnNumsBentRow.holds Try.pinned (OpenSpec.ofChange fnNumsBentWrong)

/- THE SECOND FORM. 'bulk': how many values and letters a reading holds, each counted each time it is reached (what is shared counts as often as it is met; a slice's spare places count too). A statement '..UptoSaid' is the law's where the arguments, and the package variables that the reading takes, are together of bulk at most 1048576: NARROWER than '..Said'. Prove '..Said' where nothing that the law and all that it calls make is longer than what came in: it says more and counts as full. Else prove '..UptoSaid'. A law counts once. -/
mutual
def uptoBulk {H : Type} : DataW H → Nat
  | .lit (.string bytes) => bytes.length + 1
  | .lit _ => 1
  | .nil => 1
  | .ptr d => uptoBulk d + 1
  | .slice elems spare => uptoBulkAll elems + uptoBulkAll spare + 1
  | .agg parts => uptoBulkAll parts + 1
  | .iface _ d => uptoBulk d + 1
  | .map entries => uptoBulkEntries entries + 1
  | .held _ => 1
def uptoBulkAll {H : Type} : List (DataW H) → Nat
  | [] => 0
  | d :: r => uptoBulk d + uptoBulkAll r
def uptoBulkEntries {H : Type} : List (Lit × DataW H) → Nat
  | [] => 0
  | x :: r => uptoBulkEntry x + uptoBulkEntries r
def uptoBulkEntry {H : Type} : Lit × DataW H → Nat
  | (.string bytes, d) => bytes.length + uptoBulk d + 1
  | (_, d) => uptoBulk d + 1
 end
def uptoSmall : (H : Type) → List (DataW H) → Bool := fun _ ds => decide (uptoBulkAll ds ≤ 1048576)
def OpenSpec.upto (s : _root_.Go.ChangeSpec) : _root_.Go.OpenSpec := { _root_.Go.OpenSpec.ofChange s with cond := some uptoSmall }

/-- 'laws.FnExactPutNum', WHERE WHAT IT READS IS OF BULK AT MOST 1048576: true; the input reads as it did. -/
def fnExactPutNumUptoRow : OpenClaim := { program := "ytbmgfcoiailolaa", sum := "5d8940ec490a9c42e81d9be366afefb4d7810563b6032d2757c567902fe63453", func := "loop.example/g00496/laws.FnExactPutNum", spec := "fnExactPutNum", apart := false, narrowed := true }
def FnExactPutNumUptoSaid : Prop := fnExactPutNumUptoRow.holds Try.pinned (OpenSpec.upto fnExactPutNumSpec)

/-- 'laws.FnExactWidthFor', WHERE WHAT IT READS IS OF BULK AT MOST 1048576: true; the input reads as it did. -/
def fnExactWidthForUptoRow : OpenClaim := { program := "ytbmgfcoiailolaa", sum := "5d8940ec490a9c42e81d9be366afefb4d7810563b6032d2757c567902fe63453", func := "loop.example/g00496/laws.FnExactWidthFor", spec := "fnExactWidthFor", apart := false, narrowed := true }
def FnExactWidthForUptoSaid : Prop := fnExactWidthForUptoRow.holds Try.pinned (OpenSpec.upto fnExactWidthForSpec)

/-- 'laws.FnExactUnpackBits', WHERE WHAT IT READS IS OF BULK AT MOST 1048576: true; the input reads as it did. -/
def fnExactUnpackBitsUptoRow : OpenClaim := { program := "ytbmgfcoiailolaa", sum := "5d8940ec490a9c42e81d9be366afefb4d7810563b6032d2757c567902fe63453", func := "loop.example/g00496/laws.FnExactUnpackBits", spec := "fnExactUnpackBits", apart := false, narrowed := true }
def FnExactUnpackBitsUptoSaid : Prop := fnExactUnpackBitsUptoRow.holds Try.pinned (OpenSpec.upto fnExactUnpackBitsSpec)

/-- 'laws.FnExactPutNums', WHERE WHAT IT READS IS OF BULK AT MOST 1048576: true; the input reads as it did. -/
def fnExactPutNumsUptoRow : OpenClaim := { program := "ytbmgfcoiailolaa", sum := "5d8940ec490a9c42e81d9be366afefb4d7810563b6032d2757c567902fe63453", func := "loop.example/g00496/laws.FnExactPutNums", spec := "fnExactPutNums", apart := false, narrowed := true }
def FnExactPutNumsUptoSaid : Prop := fnExactPutNumsUptoRow.holds Try.pinned (OpenSpec.upto fnExactPutNumsSpec)

/-- 'laws.FnExactGetNums', WHERE WHAT IT READS IS OF BULK AT MOST 1048576: true; the input reads as it did. -/
def fnExactGetNumsUptoRow : OpenClaim := { program := "ytbmgfcoiailolaa", sum := "5d8940ec490a9c42e81d9be366afefb4d7810563b6032d2757c567902fe63453", func := "loop.example/g00496/laws.FnExactGetNums", spec := "fnExactGetNums", apart := false, narrowed := true }
def FnExactGetNumsUptoSaid : Prop := fnExactGetNumsUptoRow.holds Try.pinned (OpenSpec.upto fnExactGetNumsSpec)

/-- 'laws.FnExactPackBits', WHERE WHAT IT READS IS OF BULK AT MOST 1048576: true; the input reads as it did. -/
def fnExactPackBitsUptoRow : OpenClaim := { program := "ytbmgfcoiailolaa", sum := "5d8940ec490a9c42e81d9be366afefb4d7810563b6032d2757c567902fe63453", func := "loop.example/g00496/laws.FnExactPackBits", spec := "fnExactPackBits", apart := false, narrowed := true }
def FnExactPackBitsUptoSaid : Prop := fnExactPackBitsUptoRow.holds Try.pinned (OpenSpec.upto fnExactPackBitsSpec)

/-- 'laws.FnNums', WHERE WHAT IT READS IS OF BULK AT MOST 1048576: true; the input reads as it did. -/
def fnNumsUptoRow : OpenClaim := { program := "ytbmgfcoiailolaa", sum := "5d8940ec490a9c42e81d9be366afefb4d7810563b6032d2757c567902fe63453", func := "loop.example/g00496/laws.FnNums", spec := "fnNums", apart := false, narrowed := true }
def FnNumsUptoSaid : Prop := fnNumsUptoRow.holds Try.pinned (OpenSpec.upto fnNumsSpec)

/-- 'laws.FnNumsBent', WHERE WHAT IT READS IS OF BULK AT MOST 1048576: true; the input reads as it did. -/
def fnNumsBentUptoRow : OpenClaim := { program := "ytbmgfcoiailolaa", sum := "5d8940ec490a9c42e81d9be366afefb4d7810563b6032d2757c567902fe63453", func := "loop.example/g00496/laws.FnNumsBent", spec := "fnNumsBent", apart := false, narrowed := true }
def FnNumsBentUptoSaid : Prop := fnNumsBentUptoRow.holds Try.pinned (OpenSpec.upto fnNumsBentSpec)

end Rows
end Go.Proofs.Ytbmgfcoiailolaa
