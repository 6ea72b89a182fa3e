/-
  No cell of these rows narrows 'for every input' (looked for: loops, veiled, ifaces, maps, wideKeys, modest, calm, conditions, laid).
  DERIVED. THE GIVEN ROWS OF THIS SEAT. 5 by the template 'for every input the law returns true; each argument reads behind the call as it read before'; 0 by the template 'total and deterministic' (their statements: YtefpilggabajmaaTotals.lean).
  GIVEN WITH THE SEED: the statements are not yours to turn. If you find one false, say at which input.
  Laid BY PROGRAM, IN A SANDBOX (cutbox-rows.mjs): the forced cells as the released guide's own fill.sh prints them over the translation e414585860fa2dce… (all of the seat's roots in one cut). By AI agents, Wed Nov 11 2026. No macro, syntax, notation, axiom, sorry.
-/
import Derived.Test.YtefpilggabajmaaChecked
import GoSem.Claim
import GoSem.ClaimJoined
import GoSem.ClaimMapViews
import Derived.JoinedTies
import Derived.KernelRfl
namespace Go.Proofs.Ytefpilggabajmaa
/- THE CELL 'sum', in the pinned program and in every row, IS THE sha256 OF THE DUMP (.gsa) THAT YtefpilggabajmaaProg.lean LOADS. Nothing in Lean hashes anything: it is a label: what it is worth is what the hold of that sum in a sandbox is worth. -/
noncomputable def Try.pinned : Pinned := { name := "ytefpilggabajmaa", sum := "e414585860fa2dce629b577e24c4e8dc2f3aaf974ca739ae49d5159a16d1168a", checked := Try.checked }
namespace Rows
def none {H : Type} : Left H := { results := [], args := [] }

/-- 'laws.FnExactConstants': WHATEVER THE INPUT: true; the input reads as it did. -/
def fnExactConstantsSpec : ChangeSpec := { name := "fnExactConstants", fn := fun _ => fun
  | [] => { results := [.lit (.bool true)], args := [] }
  | _ => none }
def fnExactConstantsRow : OpenClaim := { program := "ytefpilggabajmaa", sum := "e414585860fa2dce629b577e24c4e8dc2f3aaf974ca739ae49d5159a16d1168a", func := "loop.example/g01262/laws.FnExactConstants", spec := "fnExactConstants", apart := false }
def FnExactConstantsSaid : Prop := fnExactConstantsRow.holds Try.pinned (OpenSpec.ofChange fnExactConstantsSpec)

/-- ITS FALSE NEIGHBOUR: 'it returns false'. Refute it at one input. -/
def fnExactConstantsWrong : ChangeSpec := { name := "fnExactConstants", fn := fun _ => fun
  | [] => { results := [.lit (.bool false)], args := [] }
  | _ => none }
def FnExactConstantsWrongFalsely : Prop := fnExactConstantsRow.holds Try.pinned (OpenSpec.ofChange fnExactConstantsWrong)

/-- 'laws.FnExactCountInvertible': WHATEVER THE INPUT: true; the input reads as it did. -/
def fnExactCountInvertibleSpec : ChangeSpec := { name := "fnExactCountInvertible", fn := fun _ => fun
  | [d1, d2] => { results := [.lit (.bool true)], args := [d1, d2] }
  | _ => none }
def fnExactCountInvertibleRow : OpenClaim := { program := "ytefpilggabajmaa", sum := "e414585860fa2dce629b577e24c4e8dc2f3aaf974ca739ae49d5159a16d1168a", func := "loop.example/g01262/laws.FnExactCountInvertible", spec := "fnExactCountInvertible", apart := false }
def FnExactCountInvertibleSaid : Prop := fnExactCountInvertibleRow.holds Try.pinned (OpenSpec.ofChange fnExactCountInvertibleSpec)

/-- ITS FALSE NEIGHBOUR: 'it returns false'. Refute it at one input. -/
def fnExactCountInvertibleWrong : ChangeSpec := { name := "fnExactCountInvertible", fn := fun _ => fun
  | [d1, d2] => { results := [.lit (.bool false)], args := [d1, d2] }
  | _ => none }
def FnExactCountInvertibleWrongFalsely : Prop := fnExactCountInvertibleRow.holds Try.pinned (OpenSpec.ofChange fnExactCountInvertibleWrong)

/-- 'laws.FnExactJoinNumber': WHATEVER THE INPUT: true; the input reads as it did. -/
def fnExactJoinNumberSpec : ChangeSpec := { name := "fnExactJoinNumber", fn := fun _ => fun
  | [d1, d2, d3] => { results := [.lit (.bool true)], args := [d1, d2, d3] }
  | _ => none }
def fnExactJoinNumberRow : OpenClaim := { program := "ytefpilggabajmaa", sum := "e414585860fa2dce629b577e24c4e8dc2f3aaf974ca739ae49d5159a16d1168a", func := "loop.example/g01262/laws.FnExactJoinNumber", spec := "fnExactJoinNumber", recurses := true, apart := false }
def FnExactJoinNumberSaid : Prop := fnExactJoinNumberRow.holds Try.pinned (OpenSpec.ofChange fnExactJoinNumberSpec)

/-- ITS FALSE NEIGHBOUR: 'it returns false'. Refute it at one input. -/
def fnExactJoinNumberWrong : ChangeSpec := { name := "fnExactJoinNumber", fn := fun _ => fun
  | [d1, d2, d3] => { results := [.lit (.bool false)], args := [d1, d2, d3] }
  | _ => none }
def FnExactJoinNumberWrongFalsely : Prop := fnExactJoinNumberRow.holds Try.pinned (OpenSpec.ofChange fnExactJoinNumberWrong)

/-- 'laws.FnExactStandardScheme': WHATEVER THE INPUT: true; the input reads as it did. -/
def fnExactStandardSchemeSpec : ChangeSpec := { name := "fnExactStandardScheme", fn := fun _ => fun
  | [d1, d2, d3, d4] => { results := [.lit (.bool true)], args := [d1, d2, d3, d4] }
  | _ => none }
def fnExactStandardSchemeRow : OpenClaim := { program := "ytefpilggabajmaa", sum := "e414585860fa2dce629b577e24c4e8dc2f3aaf974ca739ae49d5159a16d1168a", func := "loop.example/g01262/laws.FnExactStandardScheme", spec := "fnExactStandardScheme", apart := false }
def FnExactStandardSchemeSaid : Prop := fnExactStandardSchemeRow.holds Try.pinned (OpenSpec.ofChange fnExactStandardSchemeSpec)

/-- ITS FALSE NEIGHBOUR: 'it returns false'. Refute it at one input. -/
def fnExactStandardSchemeWrong : ChangeSpec := { name := "fnExactStandardScheme", fn := fun _ => fun
  | [d1, d2, d3, d4] => { results := [.lit (.bool false)], args := [d1, d2, d3, d4] }
  | _ => none }
def FnExactStandardSchemeWrongFalsely : Prop := fnExactStandardSchemeRow.holds Try.pinned (OpenSpec.ofChange fnExactStandardSchemeWrong)

/-- 'laws.FnExactIsScheme': WHATEVER THE INPUT: true; the input reads as it did. -/
def fnExactIsSchemeSpec : ChangeSpec := { name := "fnExactIsScheme", fn := fun _ => fun
  | [d] => { results := [.lit (.bool true)], args := [d] }
  | _ => none }
def fnExactIsSchemeRow : OpenClaim := { program := "ytefpilggabajmaa", sum := "e414585860fa2dce629b577e24c4e8dc2f3aaf974ca739ae49d5159a16d1168a", func := "loop.example/g01262/laws.FnExactIsScheme", spec := "fnExactIsScheme", apart := false }
def FnExactIsSchemeSaid : Prop := fnExactIsSchemeRow.holds Try.pinned (OpenSpec.ofChange fnExactIsSchemeSpec)

/-- ITS FALSE NEIGHBOUR: 'it returns false'. Refute it at one input. -/
def fnExactIsSchemeWrong : ChangeSpec := { name := "fnExactIsScheme", fn := fun _ => fun
  | [d] => { results := [.lit (.bool false)], args := [d] }
  | _ => none }
def FnExactIsSchemeWrongFalsely : Prop := fnExactIsSchemeRow.holds Try.pinned (OpenSpec.ofChange fnExactIsSchemeWrong)

/- THE SECOND FORM. 'bulk': how many values and letters a reading holds, each counted each time it is reached (what is shared counts as often as it is met; a slice's spare places count too). A statement '..UptoSaid' is the law's where the arguments, and the package variables that the reading takes, are together of bulk at most 1048576: NARROWER than '..Said'. Prove '..Said' where nothing that the law and all that it calls make is longer than what came in: it says more and counts as full. Else prove '..UptoSaid'. A law counts once. -/
mutual
def uptoBulk {H : Type} : DataW H → Nat
  | .lit (.string bytes) => bytes.length + 1
  | .lit _ => 1
  | .nil => 1
  | .ptr d => uptoBulk d + 1
  | .slice elems spare => uptoBulkAll elems + uptoBulkAll spare + 1
  | .agg parts => uptoBulkAll parts + 1
  | .iface _ d => uptoBulk d + 1
  | .map entries => uptoBulkEntries entries + 1
  | .held _ => 1
def uptoBulkAll {H : Type} : List (DataW H) → Nat
  | [] => 0
  | d :: r => uptoBulk d + uptoBulkAll r
def uptoBulkEntries {H : Type} : List (Lit × DataW H) → Nat
  | [] => 0
  | x :: r => uptoBulkEntry x + uptoBulkEntries r
def uptoBulkEntry {H : Type} : Lit × DataW H → Nat
  | (.string bytes, d) => bytes.length + uptoBulk d + 1
  | (_, d) => uptoBulk d + 1
 end
def uptoSmall : (H : Type) → List (DataW H) → Bool := fun _ ds => decide (uptoBulkAll ds ≤ 1048576)
def OpenSpec.upto (s : _root_.Go.ChangeSpec) : _root_.Go.OpenSpec := { _root_.Go.OpenSpec.ofChange s with cond := some uptoSmall }

/-- 'laws.FnExactConstants', WHERE WHAT IT READS IS OF BULK AT MOST 1048576: true; the input reads as it did. -/
def fnExactConstantsUptoRow : OpenClaim := { program := "ytefpilggabajmaa", sum := "e414585860fa2dce629b577e24c4e8dc2f3aaf974ca739ae49d5159a16d1168a", func := "loop.example/g01262/laws.FnExactConstants", spec := "fnExactConstants", apart := false, narrowed := true }
def FnExactConstantsUptoSaid : Prop := fnExactConstantsUptoRow.holds Try.pinned (OpenSpec.upto fnExactConstantsSpec)

/-- 'laws.FnExactCountInvertible', WHERE WHAT IT READS IS OF BULK AT MOST 1048576: true; the input reads as it did. -/
def fnExactCountInvertibleUptoRow : OpenClaim := { program := "ytefpilggabajmaa", sum := "e414585860fa2dce629b577e24c4e8dc2f3aaf974ca739ae49d5159a16d1168a", func := "loop.example/g01262/laws.FnExactCountInvertible", spec := "fnExactCountInvertible", apart := false, narrowed := true }
def FnExactCountInvertibleUptoSaid : Prop := fnExactCountInvertibleUptoRow.holds Try.pinned (OpenSpec.upto fnExactCountInvertibleSpec)

/-- 'laws.FnExactJoinNumber', WHERE WHAT IT READS IS OF BULK AT MOST 1048576: true; the input reads as it did. -/
def fnExactJoinNumberUptoRow : OpenClaim := { program := "ytefpilggabajmaa", sum := "e414585860fa2dce629b577e24c4e8dc2f3aaf974ca739ae49d5159a16d1168a", func := "loop.example/g01262/laws.FnExactJoinNumber", spec := "fnExactJoinNumber", recurses := true, apart := false, narrowed := true }
def FnExactJoinNumberUptoSaid : Prop := fnExactJoinNumberUptoRow.holds Try.pinned (OpenSpec.upto fnExactJoinNumberSpec)

/-- 'laws.FnExactStandardScheme', WHERE WHAT IT READS IS OF BULK AT MOST 1048576: true; the input reads as it did. -/
def fnExactStandardSchemeUptoRow : OpenClaim := { program := "ytefpilggabajmaa", sum := "e414585860fa2dce629b577e24c4e8dc2f3aaf974ca739ae49d5159a16d1168a", func := "loop.example/g01262/laws.FnExactStandardScheme", spec := "fnExactStandardScheme", apart := false, narrowed := true }
def FnExactStandardSchemeUptoSaid : Prop := fnExactStandardSchemeUptoRow.holds Try.pinned (OpenSpec.upto fnExactStandardSchemeSpec)

/-- 'laws.FnExactIsScheme', WHERE WHAT IT READS IS OF BULK AT MOST 1048576: true; the input reads as it did. -/
def fnExactIsSchemeUptoRow : OpenClaim := { program := "ytefpilggabajmaa", sum := "e414585860fa2dce629b577e24c4e8dc2f3aaf974ca739ae49d5159a16d1168a", func := "loop.example/g01262/laws.FnExactIsScheme", spec := "fnExactIsScheme", apart := false, narrowed := true }
def FnExactIsSchemeUptoSaid : Prop := fnExactIsSchemeUptoRow.holds Try.pinned (OpenSpec.upto fnExactIsSchemeSpec)

end Rows
end Go.Proofs.Ytefpilggabajmaa
