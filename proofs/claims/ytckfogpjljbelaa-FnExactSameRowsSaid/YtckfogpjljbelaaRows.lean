/-
  No cell of these rows narrows 'for every input' (looked for: loops, veiled, ifaces, maps, wideKeys, modest, calm, conditions, laid).
  DERIVED. THE GIVEN ROWS OF THIS SEAT. 12 by the template 'for every input the law returns true; each argument reads behind the call as it read before'; 0 by the template 'total and deterministic' (their statements: YtckfogpjljbelaaTotals.lean).
  GIVEN WITH THE SEED: the statements are not yours to turn. If you find one false, say at which input.
  Laid BY PROGRAM, IN A SANDBOX (cutbox-rows.mjs): the forced cells as the released guide's own fill.sh prints them over the translation 59f83f80483accde… (all of the seat's roots in one cut). By AI agents, Wed Nov 11 2026. No macro, syntax, notation, axiom, sorry.
-/
import Derived.Test.YtckfogpjljbelaaChecked
import GoSem.Claim
import GoSem.ClaimJoined
import GoSem.ClaimMapViews
import Derived.JoinedTies
import Derived.KernelRfl
namespace Go.Proofs.Ytckfogpjljbelaa
/- THE CELL 'sum', in the pinned program and in every row, IS THE sha256 OF THE DUMP (.gsa) THAT YtckfogpjljbelaaProg.lean LOADS. Nothing in Lean hashes anything: it is a label: what it is worth is what the hold of that sum in a sandbox is worth. -/
noncomputable def Try.pinned : Pinned := { name := "ytckfogpjljbelaa", sum := "59f83f80483accde34090103a7cdb5e78cab77aee3e208a0c1d487ae5513f91a", checked := Try.checked }
namespace Rows
def none {H : Type} : Left H := { results := [], args := [] }

/-- 'laws.FnExactPutVal': WHATEVER THE INPUT: true; the input reads as it did. -/
def fnExactPutValSpec : ChangeSpec := { name := "fnExactPutVal", fn := fun _ => fun
  | [d1, d2] => { results := [.lit (.bool true)], args := [d1, d2] }
  | _ => none }
def fnExactPutValRow : OpenClaim := { program := "ytckfogpjljbelaa", sum := "59f83f80483accde34090103a7cdb5e78cab77aee3e208a0c1d487ae5513f91a", func := "loop.example/g00496/laws.FnExactPutVal", spec := "fnExactPutVal", apart := false }
def FnExactPutValSaid : Prop := fnExactPutValRow.holds Try.pinned (OpenSpec.ofChange fnExactPutValSpec)

/-- ITS FALSE NEIGHBOUR: 'it returns false'. Refute it at one input. -/
def fnExactPutValWrong : ChangeSpec := { name := "fnExactPutVal", fn := fun _ => fun
  | [d1, d2] => { results := [.lit (.bool false)], args := [d1, d2] }
  | _ => none }
def FnExactPutValWrongFalsely : Prop := fnExactPutValRow.holds Try.pinned (OpenSpec.ofChange fnExactPutValWrong)

/-- 'laws.FnExactPlaces': WHATEVER THE INPUT: true; the input reads as it did. -/
def fnExactPlacesSpec : ChangeSpec := { name := "fnExactPlaces", fn := fun _ => fun
  | [d1, d2] => { results := [.lit (.bool true)], args := [d1, d2] }
  | _ => none }
def fnExactPlacesRow : OpenClaim := { program := "ytckfogpjljbelaa", sum := "59f83f80483accde34090103a7cdb5e78cab77aee3e208a0c1d487ae5513f91a", func := "loop.example/g00496/laws.FnExactPlaces", spec := "fnExactPlaces", apart := false }
def FnExactPlacesSaid : Prop := fnExactPlacesRow.holds Try.pinned (OpenSpec.ofChange fnExactPlacesSpec)

/-- ITS FALSE NEIGHBOUR: 'it returns false'. Refute it at one input. -/
def fnExactPlacesWrong : ChangeSpec := { name := "fnExactPlaces", fn := fun _ => fun
  | [d1, d2] => { results := [.lit (.bool false)], args := [d1, d2] }
  | _ => none }
def FnExactPlacesWrongFalsely : Prop := fnExactPlacesRow.holds Try.pinned (OpenSpec.ofChange fnExactPlacesWrong)

/-- 'laws.FnExactRowOk': WHATEVER THE INPUT: true; the input reads as it did. -/
def fnExactRowOkSpec : ChangeSpec := { name := "fnExactRowOk", fn := fun _ => fun
  | [d1, d2] => { results := [.lit (.bool true)], args := [d1, d2] }
  | _ => none }
def fnExactRowOkRow : OpenClaim := { program := "ytckfogpjljbelaa", sum := "59f83f80483accde34090103a7cdb5e78cab77aee3e208a0c1d487ae5513f91a", func := "loop.example/g00496/laws.FnExactRowOk", spec := "fnExactRowOk", apart := false }
def FnExactRowOkSaid : Prop := fnExactRowOkRow.holds Try.pinned (OpenSpec.ofChange fnExactRowOkSpec)

/-- ITS FALSE NEIGHBOUR: 'it returns false'. Refute it at one input. -/
def fnExactRowOkWrong : ChangeSpec := { name := "fnExactRowOk", fn := fun _ => fun
  | [d1, d2] => { results := [.lit (.bool false)], args := [d1, d2] }
  | _ => none }
def FnExactRowOkWrongFalsely : Prop := fnExactRowOkRow.holds Try.pinned (OpenSpec.ofChange fnExactRowOkWrong)

/-- 'laws.FnExactRuns': WHATEVER THE INPUT: true; the input reads as it did. -/
def fnExactRunsSpec : ChangeSpec := { name := "fnExactRuns", fn := fun _ => fun
  | [d] => { results := [.lit (.bool true)], args := [d] }
  | _ => none }
def fnExactRunsRow : OpenClaim := { program := "ytckfogpjljbelaa", sum := "59f83f80483accde34090103a7cdb5e78cab77aee3e208a0c1d487ae5513f91a", func := "loop.example/g00496/laws.FnExactRuns", spec := "fnExactRuns", apart := false }
def FnExactRunsSaid : Prop := fnExactRunsRow.holds Try.pinned (OpenSpec.ofChange fnExactRunsSpec)

/-- ITS FALSE NEIGHBOUR: 'it returns false'. Refute it at one input. -/
def fnExactRunsWrong : ChangeSpec := { name := "fnExactRuns", fn := fun _ => fun
  | [d] => { results := [.lit (.bool false)], args := [d] }
  | _ => none }
def FnExactRunsWrongFalsely : Prop := fnExactRunsRow.holds Try.pinned (OpenSpec.ofChange fnExactRunsWrong)

/-- 'laws.FnExactSameRows': WHATEVER THE INPUT: true; the input reads as it did. -/
def fnExactSameRowsSpec : ChangeSpec := { name := "fnExactSameRows", fn := fun _ => fun
  | [d1, d2] => { results := [.lit (.bool true)], args := [d1, d2] }
  | _ => none }
def fnExactSameRowsRow : OpenClaim := { program := "ytckfogpjljbelaa", sum := "59f83f80483accde34090103a7cdb5e78cab77aee3e208a0c1d487ae5513f91a", func := "loop.example/g00496/laws.FnExactSameRows", spec := "fnExactSameRows", apart := false }
def FnExactSameRowsSaid : Prop := fnExactSameRowsRow.holds Try.pinned (OpenSpec.ofChange fnExactSameRowsSpec)

/-- ITS FALSE NEIGHBOUR: 'it returns false'. Refute it at one input. -/
def fnExactSameRowsWrong : ChangeSpec := { name := "fnExactSameRows", fn := fun _ => fun
  | [d1, d2] => { results := [.lit (.bool false)], args := [d1, d2] }
  | _ => none }
def FnExactSameRowsWrongFalsely : Prop := fnExactSameRowsRow.holds Try.pinned (OpenSpec.ofChange fnExactSameRowsWrong)

/-- 'laws.FnExactGetVal': WHATEVER THE INPUT: true; the input reads as it did. -/
def fnExactGetValSpec : ChangeSpec := { name := "fnExactGetVal", fn := fun _ => fun
  | [d1, d2, d3] => { results := [.lit (.bool true)], args := [d1, d2, d3] }
  | _ => none }
def fnExactGetValRow : OpenClaim := { program := "ytckfogpjljbelaa", sum := "59f83f80483accde34090103a7cdb5e78cab77aee3e208a0c1d487ae5513f91a", func := "loop.example/g00496/laws.FnExactGetVal", spec := "fnExactGetVal", apart := false }
def FnExactGetValSaid : Prop := fnExactGetValRow.holds Try.pinned (OpenSpec.ofChange fnExactGetValSpec)

/-- ITS FALSE NEIGHBOUR: 'it returns false'. Refute it at one input. -/
def fnExactGetValWrong : ChangeSpec := { name := "fnExactGetVal", fn := fun _ => fun
  | [d1, d2, d3] => { results := [.lit (.bool false)], args := [d1, d2, d3] }
  | _ => none }
def FnExactGetValWrongFalsely : Prop := fnExactGetValRow.holds Try.pinned (OpenSpec.ofChange fnExactGetValWrong)

/-- 'laws.FnExactSpread': WHATEVER THE INPUT: true; the input reads as it did. -/
def fnExactSpreadSpec : ChangeSpec := { name := "fnExactSpread", fn := fun _ => fun
  | [d] => { results := [.lit (.bool true)], args := [d] }
  | _ => none }
def fnExactSpreadRow : OpenClaim := { program := "ytckfogpjljbelaa", sum := "59f83f80483accde34090103a7cdb5e78cab77aee3e208a0c1d487ae5513f91a", func := "loop.example/g00496/laws.FnExactSpread", spec := "fnExactSpread", apart := false }
def FnExactSpreadSaid : Prop := fnExactSpreadRow.holds Try.pinned (OpenSpec.ofChange fnExactSpreadSpec)

/-- ITS FALSE NEIGHBOUR: 'it returns false'. Refute it at one input. -/
def fnExactSpreadWrong : ChangeSpec := { name := "fnExactSpread", fn := fun _ => fun
  | [d] => { results := [.lit (.bool false)], args := [d] }
  | _ => none }
def FnExactSpreadWrongFalsely : Prop := fnExactSpreadRow.holds Try.pinned (OpenSpec.ofChange fnExactSpreadWrong)

/-- 'laws.FnExactReach': WHATEVER THE INPUT: true; the input reads as it did. -/
def fnExactReachSpec : ChangeSpec := { name := "fnExactReach", fn := fun _ => fun
  | [d] => { results := [.lit (.bool true)], args := [d] }
  | _ => none }
def fnExactReachRow : OpenClaim := { program := "ytckfogpjljbelaa", sum := "59f83f80483accde34090103a7cdb5e78cab77aee3e208a0c1d487ae5513f91a", func := "loop.example/g00496/laws.FnExactReach", spec := "fnExactReach", apart := false }
def FnExactReachSaid : Prop := fnExactReachRow.holds Try.pinned (OpenSpec.ofChange fnExactReachSpec)

/-- ITS FALSE NEIGHBOUR: 'it returns false'. Refute it at one input. -/
def fnExactReachWrong : ChangeSpec := { name := "fnExactReach", fn := fun _ => fun
  | [d] => { results := [.lit (.bool false)], args := [d] }
  | _ => none }
def FnExactReachWrongFalsely : Prop := fnExactReachRow.holds Try.pinned (OpenSpec.ofChange fnExactReachWrong)

/-- 'laws.FnExactColumn': WHATEVER THE INPUT: true; the input reads as it did. -/
def fnExactColumnSpec : ChangeSpec := { name := "fnExactColumn", fn := fun _ => fun
  | [d1, d2] => { results := [.lit (.bool true)], args := [d1, d2] }
  | _ => none }
def fnExactColumnRow : OpenClaim := { program := "ytckfogpjljbelaa", sum := "59f83f80483accde34090103a7cdb5e78cab77aee3e208a0c1d487ae5513f91a", func := "loop.example/g00496/laws.FnExactColumn", spec := "fnExactColumn", apart := false }
def FnExactColumnSaid : Prop := fnExactColumnRow.holds Try.pinned (OpenSpec.ofChange fnExactColumnSpec)

/-- ITS FALSE NEIGHBOUR: 'it returns false'. Refute it at one input. -/
def fnExactColumnWrong : ChangeSpec := { name := "fnExactColumn", fn := fun _ => fun
  | [d1, d2] => { results := [.lit (.bool false)], args := [d1, d2] }
  | _ => none }
def FnExactColumnWrongFalsely : Prop := fnExactColumnRow.holds Try.pinned (OpenSpec.ofChange fnExactColumnWrong)

/-- 'laws.FnExactEncPlain': WHATEVER THE INPUT: true; the input reads as it did. -/
def fnExactEncPlainSpec : ChangeSpec := { name := "fnExactEncPlain", fn := fun _ => fun
  | [d] => { results := [.lit (.bool true)], args := [d] }
  | _ => none }
def fnExactEncPlainRow : OpenClaim := { program := "ytckfogpjljbelaa", sum := "59f83f80483accde34090103a7cdb5e78cab77aee3e208a0c1d487ae5513f91a", func := "loop.example/g00496/laws.FnExactEncPlain", spec := "fnExactEncPlain", apart := false }
def FnExactEncPlainSaid : Prop := fnExactEncPlainRow.holds Try.pinned (OpenSpec.ofChange fnExactEncPlainSpec)

/-- ITS FALSE NEIGHBOUR: 'it returns false'. Refute it at one input. -/
def fnExactEncPlainWrong : ChangeSpec := { name := "fnExactEncPlain", fn := fun _ => fun
  | [d] => { results := [.lit (.bool false)], args := [d] }
  | _ => none }
def FnExactEncPlainWrongFalsely : Prop := fnExactEncPlainRow.holds Try.pinned (OpenSpec.ofChange fnExactEncPlainWrong)

/-- 'laws.FnExactEncRuns': WHATEVER THE INPUT: true; the input reads as it did. -/
def fnExactEncRunsSpec : ChangeSpec := { name := "fnExactEncRuns", fn := fun _ => fun
  | [d] => { results := [.lit (.bool true)], args := [d] }
  | _ => none }
def fnExactEncRunsRow : OpenClaim := { program := "ytckfogpjljbelaa", sum := "59f83f80483accde34090103a7cdb5e78cab77aee3e208a0c1d487ae5513f91a", func := "loop.example/g00496/laws.FnExactEncRuns", spec := "fnExactEncRuns", apart := false }
def FnExactEncRunsSaid : Prop := fnExactEncRunsRow.holds Try.pinned (OpenSpec.ofChange fnExactEncRunsSpec)

/-- ITS FALSE NEIGHBOUR: 'it returns false'. Refute it at one input. -/
def fnExactEncRunsWrong : ChangeSpec := { name := "fnExactEncRuns", fn := fun _ => fun
  | [d] => { results := [.lit (.bool false)], args := [d] }
  | _ => none }
def FnExactEncRunsWrongFalsely : Prop := fnExactEncRunsRow.holds Try.pinned (OpenSpec.ofChange fnExactEncRunsWrong)

/-- 'laws.FnExactDecPlain': WHATEVER THE INPUT: true; the input reads as it did. -/
def fnExactDecPlainSpec : ChangeSpec := { name := "fnExactDecPlain", fn := fun _ => fun
  | [d1, d2, d3] => { results := [.lit (.bool true)], args := [d1, d2, d3] }
  | _ => none }
def fnExactDecPlainRow : OpenClaim := { program := "ytckfogpjljbelaa", sum := "59f83f80483accde34090103a7cdb5e78cab77aee3e208a0c1d487ae5513f91a", func := "loop.example/g00496/laws.FnExactDecPlain", spec := "fnExactDecPlain", apart := false }
def FnExactDecPlainSaid : Prop := fnExactDecPlainRow.holds Try.pinned (OpenSpec.ofChange fnExactDecPlainSpec)

/-- ITS FALSE NEIGHBOUR: 'it returns false'. Refute it at one input. -/
def fnExactDecPlainWrong : ChangeSpec := { name := "fnExactDecPlain", fn := fun _ => fun
  | [d1, d2, d3] => { results := [.lit (.bool false)], args := [d1, d2, d3] }
  | _ => none }
def FnExactDecPlainWrongFalsely : Prop := fnExactDecPlainRow.holds Try.pinned (OpenSpec.ofChange fnExactDecPlainWrong)

/- THE SECOND FORM. 'bulk': how many values and letters a reading holds, each counted each time it is reached (what is shared counts as often as it is met; a slice's spare places count too). A statement '..UptoSaid' is the law's where the arguments, and the package variables that the reading takes, are together of bulk at most 1048576: NARROWER than '..Said'. Prove '..Said' where nothing that the law and all that it calls make is longer than what came in: it says more and counts as full. Else prove '..UptoSaid'. A law counts once. -/
mutual
def uptoBulk {H : Type} : DataW H → Nat
  | .lit (.string bytes) => bytes.length + 1
  | .lit _ => 1
  | .nil => 1
  | .ptr d => uptoBulk d + 1
  | .slice elems spare => uptoBulkAll elems + uptoBulkAll spare + 1
  | .agg parts => uptoBulkAll parts + 1
  | .iface _ d => uptoBulk d + 1
  | .map entries => uptoBulkEntries entries + 1
  | .held _ => 1
def uptoBulkAll {H : Type} : List (DataW H) → Nat
  | [] => 0
  | d :: r => uptoBulk d + uptoBulkAll r
def uptoBulkEntries {H : Type} : List (Lit × DataW H) → Nat
  | [] => 0
  | x :: r => uptoBulkEntry x + uptoBulkEntries r
def uptoBulkEntry {H : Type} : Lit × DataW H → Nat
  | (.string bytes, d) => bytes.length + uptoBulk d + 1
  | (_, d) => uptoBulk d + 1
 end
def uptoSmall : (H : Type) → List (DataW H) → Bool := fun _ ds => decide (uptoBulkAll ds ≤ 1048576)
def OpenSpec.upto (s : _root_.Go.ChangeSpec) : _root_.Go.OpenSpec := { _root_.Go.OpenSpec.ofChange s with cond := some uptoSmall }

/-- 'laws.FnExactPutVal', WHERE WHAT IT READS IS OF BULK AT MOST 1048576: true; the input reads as it did. -/
def fnExactPutValUptoRow : OpenClaim := { program := "ytckfogpjljbelaa", sum := "59f83f80483accde34090103a7cdb5e78cab77aee3e208a0c1d487ae5513f91a", func := "loop.example/g00496/laws.FnExactPutVal", spec := "fnExactPutVal", apart := false, narrowed := true }
def FnExactPutValUptoSaid : Prop := fnExactPutValUptoRow.holds Try.pinned (OpenSpec.upto fnExactPutValSpec)

/-- 'laws.FnExactPlaces', WHERE WHAT IT READS IS OF BULK AT MOST 1048576: true; the input reads as it did. -/
def fnExactPlacesUptoRow : OpenClaim := { program := "ytckfogpjljbelaa", sum := "59f83f80483accde34090103a7cdb5e78cab77aee3e208a0c1d487ae5513f91a", func := "loop.example/g00496/laws.FnExactPlaces", spec := "fnExactPlaces", apart := false, narrowed := true }
def FnExactPlacesUptoSaid : Prop := fnExactPlacesUptoRow.holds Try.pinned (OpenSpec.upto fnExactPlacesSpec)

/-- 'laws.FnExactRowOk', WHERE WHAT IT READS IS OF BULK AT MOST 1048576: true; the input reads as it did. -/
def fnExactRowOkUptoRow : OpenClaim := { program := "ytckfogpjljbelaa", sum := "59f83f80483accde34090103a7cdb5e78cab77aee3e208a0c1d487ae5513f91a", func := "loop.example/g00496/laws.FnExactRowOk", spec := "fnExactRowOk", apart := false, narrowed := true }
def FnExactRowOkUptoSaid : Prop := fnExactRowOkUptoRow.holds Try.pinned (OpenSpec.upto fnExactRowOkSpec)

/-- 'laws.FnExactRuns', WHERE WHAT IT READS IS OF BULK AT MOST 1048576: true; the input reads as it did. -/
def fnExactRunsUptoRow : OpenClaim := { program := "ytckfogpjljbelaa", sum := "59f83f80483accde34090103a7cdb5e78cab77aee3e208a0c1d487ae5513f91a", func := "loop.example/g00496/laws.FnExactRuns", spec := "fnExactRuns", apart := false, narrowed := true }
def FnExactRunsUptoSaid : Prop := fnExactRunsUptoRow.holds Try.pinned (OpenSpec.upto fnExactRunsSpec)

/-- 'laws.FnExactSameRows', WHERE WHAT IT READS IS OF BULK AT MOST 1048576: true; the input reads as it did. -/
def fnExactSameRowsUptoRow : OpenClaim := { program := "ytckfogpjljbelaa", sum := "59f83f80483accde34090103a7cdb5e78cab77aee3e208a0c1d487ae5513f91a", func := "loop.example/g00496/laws.FnExactSameRows", spec := "fnExactSameRows", apart := false, narrowed := true }
def FnExactSameRowsUptoSaid : Prop := fnExactSameRowsUptoRow.holds Try.pinned (OpenSpec.upto fnExactSameRowsSpec)

/-- 'laws.FnExactGetVal', WHERE WHAT IT READS IS OF BULK AT MOST 1048576: true; the input reads as it did. -/
def fnExactGetValUptoRow : OpenClaim := { program := "ytckfogpjljbelaa", sum := "59f83f80483accde34090103a7cdb5e78cab77aee3e208a0c1d487ae5513f91a", func := "loop.example/g00496/laws.FnExactGetVal", spec := "fnExactGetVal", apart := false, narrowed := true }
def FnExactGetValUptoSaid : Prop := fnExactGetValUptoRow.holds Try.pinned (OpenSpec.upto fnExactGetValSpec)

/-- 'laws.FnExactSpread', WHERE WHAT IT READS IS OF BULK AT MOST 1048576: true; the input reads as it did. -/
def fnExactSpreadUptoRow : OpenClaim := { program := "ytckfogpjljbelaa", sum := "59f83f80483accde34090103a7cdb5e78cab77aee3e208a0c1d487ae5513f91a", func := "loop.example/g00496/laws.FnExactSpread", spec := "fnExactSpread", apart := false, narrowed := true }
def FnExactSpreadUptoSaid : Prop := fnExactSpreadUptoRow.holds Try.pinned (OpenSpec.upto fnExactSpreadSpec)

/-- 'laws.FnExactReach', WHERE WHAT IT READS IS OF BULK AT MOST 1048576: true; the input reads as it did. -/
def fnExactReachUptoRow : OpenClaim := { program := "ytckfogpjljbelaa", sum := "59f83f80483accde34090103a7cdb5e78cab77aee3e208a0c1d487ae5513f91a", func := "loop.example/g00496/laws.FnExactReach", spec := "fnExactReach", apart := false, narrowed := true }
def FnExactReachUptoSaid : Prop := fnExactReachUptoRow.holds Try.pinned (OpenSpec.upto fnExactReachSpec)

/-- 'laws.FnExactColumn', WHERE WHAT IT READS IS OF BULK AT MOST 1048576: true; the input reads as it did. -/
def fnExactColumnUptoRow : OpenClaim := { program := "ytckfogpjljbelaa", sum := "59f83f80483accde34090103a7cdb5e78cab77aee3e208a0c1d487ae5513f91a", func := "loop.example/g00496/laws.FnExactColumn", spec := "fnExactColumn", apart := false, narrowed := true }
def FnExactColumnUptoSaid : Prop := fnExactColumnUptoRow.holds Try.pinned (OpenSpec.upto fnExactColumnSpec)

/-- 'laws.FnExactEncPlain', WHERE WHAT IT READS IS OF BULK AT MOST 1048576: true; the input reads as it did. -/
def fnExactEncPlainUptoRow : OpenClaim := { program := "ytckfogpjljbelaa", sum := "59f83f80483accde34090103a7cdb5e78cab77aee3e208a0c1d487ae5513f91a", func := "loop.example/g00496/laws.FnExactEncPlain", spec := "fnExactEncPlain", apart := false, narrowed := true }
def FnExactEncPlainUptoSaid : Prop := fnExactEncPlainUptoRow.holds Try.pinned (OpenSpec.upto fnExactEncPlainSpec)

/-- 'laws.FnExactEncRuns', WHERE WHAT IT READS IS OF BULK AT MOST 1048576: true; the input reads as it did. -/
def fnExactEncRunsUptoRow : OpenClaim := { program := "ytckfogpjljbelaa", sum := "59f83f80483accde34090103a7cdb5e78cab77aee3e208a0c1d487ae5513f91a", func := "loop.example/g00496/laws.FnExactEncRuns", spec := "fnExactEncRuns", apart := false, narrowed := true }
def FnExactEncRunsUptoSaid : Prop := fnExactEncRunsUptoRow.holds Try.pinned (OpenSpec.upto fnExactEncRunsSpec)

/-- 'laws.FnExactDecPlain', WHERE WHAT IT READS IS OF BULK AT MOST 1048576: true; the input reads as it did. -/
def fnExactDecPlainUptoRow : OpenClaim := { program := "ytckfogpjljbelaa", sum := "59f83f80483accde34090103a7cdb5e78cab77aee3e208a0c1d487ae5513f91a", func := "loop.example/g00496/laws.FnExactDecPlain", spec := "fnExactDecPlain", apart := false, narrowed := true }
def FnExactDecPlainUptoSaid : Prop := fnExactDecPlainUptoRow.holds Try.pinned (OpenSpec.upto fnExactDecPlainSpec)

end Rows
end Go.Proofs.Ytckfogpjljbelaa
