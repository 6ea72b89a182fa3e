/-
  No cell of these rows narrows 'for every input' (looked for: loops, veiled, ifaces, maps, wideKeys, modest, calm, conditions, laid).
  DERIVED. THE GIVEN ROWS OF THIS SEAT. 12 by the template 'for every input the law returns true; each argument reads behind the call as it read before'; 0 by the template 'total and deterministic' (their statements: YtjdciikfbinchaaTotals.lean).
  GIVEN WITH THE SEED: the statements are not yours to turn. If you find one false, say at which input.
  Laid BY PROGRAM, IN A SANDBOX (cutbox-rows.mjs): the forced cells as the released guide's own fill.sh prints them over the translation 35c882ca5ea8a339… (all of the seat's roots in one cut). By AI agents, Wed Nov 11 2026. No macro, syntax, notation, axiom, sorry.
-/
import Derived.Test.YtjdciikfbinchaaChecked
import GoSem.Claim
import GoSem.ClaimJoined
import GoSem.ClaimMapViews
import Derived.JoinedTies
import Derived.KernelRfl
namespace Go.Proofs.Ytjdciikfbinchaa
/- THE CELL 'sum', in the pinned program and in every row, IS THE sha256 OF THE DUMP (.gsa) THAT YtjdciikfbinchaaProg.lean LOADS. Nothing in Lean hashes anything: it is a label: what it is worth is what the hold of that sum in a sandbox is worth. -/
noncomputable def Try.pinned : Pinned := { name := "ytjdciikfbinchaa", sum := "35c882ca5ea8a339300b70de26384a2818a4ecc03a632b11814fbaaff8441221", checked := Try.checked }
namespace Rows
def none {H : Type} : Left H := { results := [], args := [] }

/-- 'laws.FnExactJoinNumber': WHATEVER THE INPUT: true; the input reads as it did. -/
def fnExactJoinNumberSpec : ChangeSpec := { name := "fnExactJoinNumber", fn := fun _ => fun
  | [d1, d2, d3] => { results := [.lit (.bool true)], args := [d1, d2, d3] }
  | _ => none }
def fnExactJoinNumberRow : OpenClaim := { program := "ytjdciikfbinchaa", sum := "35c882ca5ea8a339300b70de26384a2818a4ecc03a632b11814fbaaff8441221", func := "loop.example/g01262/laws.FnExactJoinNumber", spec := "fnExactJoinNumber", recurses := true, apart := false }
def FnExactJoinNumberSaid : Prop := fnExactJoinNumberRow.holds Try.pinned (OpenSpec.ofChange fnExactJoinNumberSpec)

/-- ITS FALSE NEIGHBOUR: 'it returns false'. Refute it at one input. -/
def fnExactJoinNumberWrong : ChangeSpec := { name := "fnExactJoinNumber", fn := fun _ => fun
  | [d1, d2, d3] => { results := [.lit (.bool false)], args := [d1, d2, d3] }
  | _ => none }
def FnExactJoinNumberWrongFalsely : Prop := fnExactJoinNumberRow.holds Try.pinned (OpenSpec.ofChange fnExactJoinNumberWrong)

/-- 'laws.FnExactStandardScheme': WHATEVER THE INPUT: true; the input reads as it did. -/
def fnExactStandardSchemeSpec : ChangeSpec := { name := "fnExactStandardScheme", fn := fun _ => fun
  | [d1, d2, d3, d4] => { results := [.lit (.bool true)], args := [d1, d2, d3, d4] }
  | _ => none }
def fnExactStandardSchemeRow : OpenClaim := { program := "ytjdciikfbinchaa", sum := "35c882ca5ea8a339300b70de26384a2818a4ecc03a632b11814fbaaff8441221", func := "loop.example/g01262/laws.FnExactStandardScheme", spec := "fnExactStandardScheme", apart := false }
def FnExactStandardSchemeSaid : Prop := fnExactStandardSchemeRow.holds Try.pinned (OpenSpec.ofChange fnExactStandardSchemeSpec)

/-- ITS FALSE NEIGHBOUR: 'it returns false'. Refute it at one input. -/
def fnExactStandardSchemeWrong : ChangeSpec := { name := "fnExactStandardScheme", fn := fun _ => fun
  | [d1, d2, d3, d4] => { results := [.lit (.bool false)], args := [d1, d2, d3, d4] }
  | _ => none }
def FnExactStandardSchemeWrongFalsely : Prop := fnExactStandardSchemeRow.holds Try.pinned (OpenSpec.ofChange fnExactStandardSchemeWrong)

/-- 'laws.FnExactIsScheme': WHATEVER THE INPUT: true; the input reads as it did. -/
def fnExactIsSchemeSpec : ChangeSpec := { name := "fnExactIsScheme", fn := fun _ => fun
  | [d] => { results := [.lit (.bool true)], args := [d] }
  | _ => none }
def fnExactIsSchemeRow : OpenClaim := { program := "ytjdciikfbinchaa", sum := "35c882ca5ea8a339300b70de26384a2818a4ecc03a632b11814fbaaff8441221", func := "loop.example/g01262/laws.FnExactIsScheme", spec := "fnExactIsScheme", apart := false }
def FnExactIsSchemeSaid : Prop := fnExactIsSchemeRow.holds Try.pinned (OpenSpec.ofChange fnExactIsSchemeSpec)

/-- ITS FALSE NEIGHBOUR: 'it returns false'. Refute it at one input. -/
def fnExactIsSchemeWrong : ChangeSpec := { name := "fnExactIsScheme", fn := fun _ => fun
  | [d] => { results := [.lit (.bool false)], args := [d] }
  | _ => none }
def FnExactIsSchemeWrongFalsely : Prop := fnExactIsSchemeRow.holds Try.pinned (OpenSpec.ofChange fnExactIsSchemeWrong)

/-- 'laws.FnExactPlainProduct': WHATEVER THE INPUT: true; the input reads as it did. -/
def fnExactPlainProductSpec : ChangeSpec := { name := "fnExactPlainProduct", fn := fun _ => fun
  | [d1, d2, d3] => { results := [.lit (.bool true)], args := [d1, d2, d3] }
  | _ => none }
def fnExactPlainProductRow : OpenClaim := { program := "ytjdciikfbinchaa", sum := "35c882ca5ea8a339300b70de26384a2818a4ecc03a632b11814fbaaff8441221", func := "loop.example/g01262/laws.FnExactPlainProduct", spec := "fnExactPlainProduct", apart := false }
def FnExactPlainProductSaid : Prop := fnExactPlainProductRow.holds Try.pinned (OpenSpec.ofChange fnExactPlainProductSpec)

/-- ITS FALSE NEIGHBOUR: 'it returns false'. Refute it at one input. -/
def fnExactPlainProductWrong : ChangeSpec := { name := "fnExactPlainProduct", fn := fun _ => fun
  | [d1, d2, d3] => { results := [.lit (.bool false)], args := [d1, d2, d3] }
  | _ => none }
def FnExactPlainProductWrongFalsely : Prop := fnExactPlainProductRow.holds Try.pinned (OpenSpec.ofChange fnExactPlainProductWrong)

/-- 'laws.FnExactRightSide': WHATEVER THE INPUT: true; the input reads as it did. -/
def fnExactRightSideSpec : ChangeSpec := { name := "fnExactRightSide", fn := fun _ => fun
  | [d1, d2, d3, d4] => { results := [.lit (.bool true)], args := [d1, d2, d3, d4] }
  | _ => none }
def fnExactRightSideRow : OpenClaim := { program := "ytjdciikfbinchaa", sum := "35c882ca5ea8a339300b70de26384a2818a4ecc03a632b11814fbaaff8441221", func := "loop.example/g01262/laws.FnExactRightSide", spec := "fnExactRightSide", apart := false }
def FnExactRightSideSaid : Prop := fnExactRightSideRow.holds Try.pinned (OpenSpec.ofChange fnExactRightSideSpec)

/-- ITS FALSE NEIGHBOUR: 'it returns false'. Refute it at one input. -/
def fnExactRightSideWrong : ChangeSpec := { name := "fnExactRightSide", fn := fun _ => fun
  | [d1, d2, d3, d4] => { results := [.lit (.bool false)], args := [d1, d2, d3, d4] }
  | _ => none }
def FnExactRightSideWrongFalsely : Prop := fnExactRightSideRow.holds Try.pinned (OpenSpec.ofChange fnExactRightSideWrong)

/-- 'laws.FnExactLeftSide': WHATEVER THE INPUT: true; the input reads as it did. -/
def fnExactLeftSideSpec : ChangeSpec := { name := "fnExactLeftSide", fn := fun _ => fun
  | [d1, d2, d3, d4] => { results := [.lit (.bool true)], args := [d1, d2, d3, d4] }
  | _ => none }
def fnExactLeftSideRow : OpenClaim := { program := "ytjdciikfbinchaa", sum := "35c882ca5ea8a339300b70de26384a2818a4ecc03a632b11814fbaaff8441221", func := "loop.example/g01262/laws.FnExactLeftSide", spec := "fnExactLeftSide", apart := false }
def FnExactLeftSideSaid : Prop := fnExactLeftSideRow.holds Try.pinned (OpenSpec.ofChange fnExactLeftSideSpec)

/-- ITS FALSE NEIGHBOUR: 'it returns false'. Refute it at one input. -/
def fnExactLeftSideWrong : ChangeSpec := { name := "fnExactLeftSide", fn := fun _ => fun
  | [d1, d2, d3, d4] => { results := [.lit (.bool false)], args := [d1, d2, d3, d4] }
  | _ => none }
def FnExactLeftSideWrongFalsely : Prop := fnExactLeftSideRow.holds Try.pinned (OpenSpec.ofChange fnExactLeftSideWrong)

/-- 'laws.FnExactCountWrong': WHATEVER THE INPUT: true; the input reads as it did. -/
def fnExactCountWrongSpec : ChangeSpec := { name := "fnExactCountWrong", fn := fun _ => fun
  | [d] => { results := [.lit (.bool true)], args := [d] }
  | _ => none }
def fnExactCountWrongRow : OpenClaim := { program := "ytjdciikfbinchaa", sum := "35c882ca5ea8a339300b70de26384a2818a4ecc03a632b11814fbaaff8441221", func := "loop.example/g01262/laws.FnExactCountWrong", spec := "fnExactCountWrong", apart := false }
def FnExactCountWrongSaid : Prop := fnExactCountWrongRow.holds Try.pinned (OpenSpec.ofChange fnExactCountWrongSpec)

/-- ITS FALSE NEIGHBOUR: 'it returns false'. Refute it at one input. -/
def fnExactCountWrongWrong : ChangeSpec := { name := "fnExactCountWrong", fn := fun _ => fun
  | [d] => { results := [.lit (.bool false)], args := [d] }
  | _ => none }
def FnExactCountWrongWrongFalsely : Prop := fnExactCountWrongRow.holds Try.pinned (OpenSpec.ofChange fnExactCountWrongWrong)

/-- 'laws.FnExactIsCorrect': WHATEVER THE INPUT: true; the input reads as it did. -/
def fnExactIsCorrectSpec : ChangeSpec := { name := "fnExactIsCorrect", fn := fun _ => fun
  | [d] => { results := [.lit (.bool true)], args := [d] }
  | _ => none }
def fnExactIsCorrectRow : OpenClaim := { program := "ytjdciikfbinchaa", sum := "35c882ca5ea8a339300b70de26384a2818a4ecc03a632b11814fbaaff8441221", func := "loop.example/g01262/laws.FnExactIsCorrect", spec := "fnExactIsCorrect", apart := false }
def FnExactIsCorrectSaid : Prop := fnExactIsCorrectRow.holds Try.pinned (OpenSpec.ofChange fnExactIsCorrectSpec)

/-- ITS FALSE NEIGHBOUR: 'it returns false'. Refute it at one input. -/
def fnExactIsCorrectWrong : ChangeSpec := { name := "fnExactIsCorrect", fn := fun _ => fun
  | [d] => { results := [.lit (.bool false)], args := [d] }
  | _ => none }
def FnExactIsCorrectWrongFalsely : Prop := fnExactIsCorrectRow.holds Try.pinned (OpenSpec.ofChange fnExactIsCorrectWrong)

/-- 'laws.FnExactFirstWrong': WHATEVER THE INPUT: true; the input reads as it did. -/
def fnExactFirstWrongSpec : ChangeSpec := { name := "fnExactFirstWrong", fn := fun _ => fun
  | [d] => { results := [.lit (.bool true)], args := [d] }
  | _ => none }
def fnExactFirstWrongRow : OpenClaim := { program := "ytjdciikfbinchaa", sum := "35c882ca5ea8a339300b70de26384a2818a4ecc03a632b11814fbaaff8441221", func := "loop.example/g01262/laws.FnExactFirstWrong", spec := "fnExactFirstWrong", apart := false }
def FnExactFirstWrongSaid : Prop := fnExactFirstWrongRow.holds Try.pinned (OpenSpec.ofChange fnExactFirstWrongSpec)

/-- ITS FALSE NEIGHBOUR: 'it returns false'. Refute it at one input. -/
def fnExactFirstWrongWrong : ChangeSpec := { name := "fnExactFirstWrong", fn := fun _ => fun
  | [d] => { results := [.lit (.bool false)], args := [d] }
  | _ => none }
def FnExactFirstWrongWrongFalsely : Prop := fnExactFirstWrongRow.holds Try.pinned (OpenSpec.ofChange fnExactFirstWrongWrong)

/-- 'laws.FnExactAddProduct': WHATEVER THE INPUT: true; the input reads as it did. -/
def fnExactAddProductSpec : ChangeSpec := { name := "fnExactAddProduct", fn := fun _ => fun
  | [d1, d2] => { results := [.lit (.bool true)], args := [d1, d2] }
  | _ => none }
def fnExactAddProductRow : OpenClaim := { program := "ytjdciikfbinchaa", sum := "35c882ca5ea8a339300b70de26384a2818a4ecc03a632b11814fbaaff8441221", func := "loop.example/g01262/laws.FnExactAddProduct", spec := "fnExactAddProduct", apart := false }
def FnExactAddProductSaid : Prop := fnExactAddProductRow.holds Try.pinned (OpenSpec.ofChange fnExactAddProductSpec)

/-- ITS FALSE NEIGHBOUR: 'it returns false'. Refute it at one input. -/
def fnExactAddProductWrong : ChangeSpec := { name := "fnExactAddProduct", fn := fun _ => fun
  | [d1, d2] => { results := [.lit (.bool false)], args := [d1, d2] }
  | _ => none }
def FnExactAddProductWrongFalsely : Prop := fnExactAddProductRow.holds Try.pinned (OpenSpec.ofChange fnExactAddProductWrong)

/-- 'laws.FnExactRestrictScheme': WHATEVER THE INPUT: true; the input reads as it did. -/
def fnExactRestrictSchemeSpec : ChangeSpec := { name := "fnExactRestrictScheme", fn := fun _ => fun
  | [d1, d2, d3, d4] => { results := [.lit (.bool true)], args := [d1, d2, d3, d4] }
  | _ => none }
def fnExactRestrictSchemeRow : OpenClaim := { program := "ytjdciikfbinchaa", sum := "35c882ca5ea8a339300b70de26384a2818a4ecc03a632b11814fbaaff8441221", func := "loop.example/g01262/laws.FnExactRestrictScheme", spec := "fnExactRestrictScheme", apart := false }
def FnExactRestrictSchemeSaid : Prop := fnExactRestrictSchemeRow.holds Try.pinned (OpenSpec.ofChange fnExactRestrictSchemeSpec)

/-- ITS FALSE NEIGHBOUR: 'it returns false'. Refute it at one input. -/
def fnExactRestrictSchemeWrong : ChangeSpec := { name := "fnExactRestrictScheme", fn := fun _ => fun
  | [d1, d2, d3, d4] => { results := [.lit (.bool false)], args := [d1, d2, d3, d4] }
  | _ => none }
def FnExactRestrictSchemeWrongFalsely : Prop := fnExactRestrictSchemeRow.holds Try.pinned (OpenSpec.ofChange fnExactRestrictSchemeWrong)

/-- 'laws.FnExactWithoutProduct': WHATEVER THE INPUT: true; the input reads as it did. -/
def fnExactWithoutProductSpec : ChangeSpec := { name := "fnExactWithoutProduct", fn := fun _ => fun
  | [d1, d2] => { results := [.lit (.bool true)], args := [d1, d2] }
  | _ => none }
def fnExactWithoutProductRow : OpenClaim := { program := "ytjdciikfbinchaa", sum := "35c882ca5ea8a339300b70de26384a2818a4ecc03a632b11814fbaaff8441221", func := "loop.example/g01262/laws.FnExactWithoutProduct", spec := "fnExactWithoutProduct", apart := false }
def FnExactWithoutProductSaid : Prop := fnExactWithoutProductRow.holds Try.pinned (OpenSpec.ofChange fnExactWithoutProductSpec)

/-- ITS FALSE NEIGHBOUR: 'it returns false'. Refute it at one input. -/
def fnExactWithoutProductWrong : ChangeSpec := { name := "fnExactWithoutProduct", fn := fun _ => fun
  | [d1, d2] => { results := [.lit (.bool false)], args := [d1, d2] }
  | _ => none }
def FnExactWithoutProductWrongFalsely : Prop := fnExactWithoutProductRow.holds Try.pinned (OpenSpec.ofChange fnExactWithoutProductWrong)

/- THE SECOND FORM. 'bulk': how many values and letters a reading holds, each counted each time it is reached (what is shared counts as often as it is met; a slice's spare places count too). A statement '..UptoSaid' is the law's where the arguments, and the package variables that the reading takes, are together of bulk at most 1048576: NARROWER than '..Said'. Prove '..Said' where nothing that the law and all that it calls make is longer than what came in: it says more and counts as full. Else prove '..UptoSaid'. A law counts once. -/
mutual
def uptoBulk {H : Type} : DataW H → Nat
  | .lit (.string bytes) => bytes.length + 1
  | .lit _ => 1
  | .nil => 1
  | .ptr d => uptoBulk d + 1
  | .slice elems spare => uptoBulkAll elems + uptoBulkAll spare + 1
  | .agg parts => uptoBulkAll parts + 1
  | .iface _ d => uptoBulk d + 1
  | .map entries => uptoBulkEntries entries + 1
  | .held _ => 1
def uptoBulkAll {H : Type} : List (DataW H) → Nat
  | [] => 0
  | d :: r => uptoBulk d + uptoBulkAll r
def uptoBulkEntries {H : Type} : List (Lit × DataW H) → Nat
  | [] => 0
  | x :: r => uptoBulkEntry x + uptoBulkEntries r
def uptoBulkEntry {H : Type} : Lit × DataW H → Nat
  | (.string bytes, d) => bytes.length + uptoBulk d + 1
  | (_, d) => uptoBulk d + 1
 end
def uptoSmall : (H : Type) → List (DataW H) → Bool := fun _ ds => decide (uptoBulkAll ds ≤ 1048576)
def OpenSpec.upto (s : _root_.Go.ChangeSpec) : _root_.Go.OpenSpec := { _root_.Go.OpenSpec.ofChange s with cond := some uptoSmall }

/-- 'laws.FnExactJoinNumber', WHERE WHAT IT READS IS OF BULK AT MOST 1048576: true; the input reads as it did. -/
def fnExactJoinNumberUptoRow : OpenClaim := { program := "ytjdciikfbinchaa", sum := "35c882ca5ea8a339300b70de26384a2818a4ecc03a632b11814fbaaff8441221", func := "loop.example/g01262/laws.FnExactJoinNumber", spec := "fnExactJoinNumber", recurses := true, apart := false, narrowed := true }
def FnExactJoinNumberUptoSaid : Prop := fnExactJoinNumberUptoRow.holds Try.pinned (OpenSpec.upto fnExactJoinNumberSpec)

/-- 'laws.FnExactStandardScheme', WHERE WHAT IT READS IS OF BULK AT MOST 1048576: true; the input reads as it did. -/
def fnExactStandardSchemeUptoRow : OpenClaim := { program := "ytjdciikfbinchaa", sum := "35c882ca5ea8a339300b70de26384a2818a4ecc03a632b11814fbaaff8441221", func := "loop.example/g01262/laws.FnExactStandardScheme", spec := "fnExactStandardScheme", apart := false, narrowed := true }
def FnExactStandardSchemeUptoSaid : Prop := fnExactStandardSchemeUptoRow.holds Try.pinned (OpenSpec.upto fnExactStandardSchemeSpec)

/-- 'laws.FnExactIsScheme', WHERE WHAT IT READS IS OF BULK AT MOST 1048576: true; the input reads as it did. -/
def fnExactIsSchemeUptoRow : OpenClaim := { program := "ytjdciikfbinchaa", sum := "35c882ca5ea8a339300b70de26384a2818a4ecc03a632b11814fbaaff8441221", func := "loop.example/g01262/laws.FnExactIsScheme", spec := "fnExactIsScheme", apart := false, narrowed := true }
def FnExactIsSchemeUptoSaid : Prop := fnExactIsSchemeUptoRow.holds Try.pinned (OpenSpec.upto fnExactIsSchemeSpec)

/-- 'laws.FnExactPlainProduct', WHERE WHAT IT READS IS OF BULK AT MOST 1048576: true; the input reads as it did. -/
def fnExactPlainProductUptoRow : OpenClaim := { program := "ytjdciikfbinchaa", sum := "35c882ca5ea8a339300b70de26384a2818a4ecc03a632b11814fbaaff8441221", func := "loop.example/g01262/laws.FnExactPlainProduct", spec := "fnExactPlainProduct", apart := false, narrowed := true }
def FnExactPlainProductUptoSaid : Prop := fnExactPlainProductUptoRow.holds Try.pinned (OpenSpec.upto fnExactPlainProductSpec)

/-- 'laws.FnExactRightSide', WHERE WHAT IT READS IS OF BULK AT MOST 1048576: true; the input reads as it did. -/
def fnExactRightSideUptoRow : OpenClaim := { program := "ytjdciikfbinchaa", sum := "35c882ca5ea8a339300b70de26384a2818a4ecc03a632b11814fbaaff8441221", func := "loop.example/g01262/laws.FnExactRightSide", spec := "fnExactRightSide", apart := false, narrowed := true }
def FnExactRightSideUptoSaid : Prop := fnExactRightSideUptoRow.holds Try.pinned (OpenSpec.upto fnExactRightSideSpec)

/-- 'laws.FnExactLeftSide', WHERE WHAT IT READS IS OF BULK AT MOST 1048576: true; the input reads as it did. -/
def fnExactLeftSideUptoRow : OpenClaim := { program := "ytjdciikfbinchaa", sum := "35c882ca5ea8a339300b70de26384a2818a4ecc03a632b11814fbaaff8441221", func := "loop.example/g01262/laws.FnExactLeftSide", spec := "fnExactLeftSide", apart := false, narrowed := true }
def FnExactLeftSideUptoSaid : Prop := fnExactLeftSideUptoRow.holds Try.pinned (OpenSpec.upto fnExactLeftSideSpec)

/-- 'laws.FnExactCountWrong', WHERE WHAT IT READS IS OF BULK AT MOST 1048576: true; the input reads as it did. -/
def fnExactCountWrongUptoRow : OpenClaim := { program := "ytjdciikfbinchaa", sum := "35c882ca5ea8a339300b70de26384a2818a4ecc03a632b11814fbaaff8441221", func := "loop.example/g01262/laws.FnExactCountWrong", spec := "fnExactCountWrong", apart := false, narrowed := true }
def FnExactCountWrongUptoSaid : Prop := fnExactCountWrongUptoRow.holds Try.pinned (OpenSpec.upto fnExactCountWrongSpec)

/-- 'laws.FnExactIsCorrect', WHERE WHAT IT READS IS OF BULK AT MOST 1048576: true; the input reads as it did. -/
def fnExactIsCorrectUptoRow : OpenClaim := { program := "ytjdciikfbinchaa", sum := "35c882ca5ea8a339300b70de26384a2818a4ecc03a632b11814fbaaff8441221", func := "loop.example/g01262/laws.FnExactIsCorrect", spec := "fnExactIsCorrect", apart := false, narrowed := true }
def FnExactIsCorrectUptoSaid : Prop := fnExactIsCorrectUptoRow.holds Try.pinned (OpenSpec.upto fnExactIsCorrectSpec)

/-- 'laws.FnExactFirstWrong', WHERE WHAT IT READS IS OF BULK AT MOST 1048576: true; the input reads as it did. -/
def fnExactFirstWrongUptoRow : OpenClaim := { program := "ytjdciikfbinchaa", sum := "35c882ca5ea8a339300b70de26384a2818a4ecc03a632b11814fbaaff8441221", func := "loop.example/g01262/laws.FnExactFirstWrong", spec := "fnExactFirstWrong", apart := false, narrowed := true }
def FnExactFirstWrongUptoSaid : Prop := fnExactFirstWrongUptoRow.holds Try.pinned (OpenSpec.upto fnExactFirstWrongSpec)

/-- 'laws.FnExactAddProduct', WHERE WHAT IT READS IS OF BULK AT MOST 1048576: true; the input reads as it did. -/
def fnExactAddProductUptoRow : OpenClaim := { program := "ytjdciikfbinchaa", sum := "35c882ca5ea8a339300b70de26384a2818a4ecc03a632b11814fbaaff8441221", func := "loop.example/g01262/laws.FnExactAddProduct", spec := "fnExactAddProduct", apart := false, narrowed := true }
def FnExactAddProductUptoSaid : Prop := fnExactAddProductUptoRow.holds Try.pinned (OpenSpec.upto fnExactAddProductSpec)

/-- 'laws.FnExactRestrictScheme', WHERE WHAT IT READS IS OF BULK AT MOST 1048576: true; the input reads as it did. -/
def fnExactRestrictSchemeUptoRow : OpenClaim := { program := "ytjdciikfbinchaa", sum := "35c882ca5ea8a339300b70de26384a2818a4ecc03a632b11814fbaaff8441221", func := "loop.example/g01262/laws.FnExactRestrictScheme", spec := "fnExactRestrictScheme", apart := false, narrowed := true }
def FnExactRestrictSchemeUptoSaid : Prop := fnExactRestrictSchemeUptoRow.holds Try.pinned (OpenSpec.upto fnExactRestrictSchemeSpec)

/-- 'laws.FnExactWithoutProduct', WHERE WHAT IT READS IS OF BULK AT MOST 1048576: true; the input reads as it did. -/
def fnExactWithoutProductUptoRow : OpenClaim := { program := "ytjdciikfbinchaa", sum := "35c882ca5ea8a339300b70de26384a2818a4ecc03a632b11814fbaaff8441221", func := "loop.example/g01262/laws.FnExactWithoutProduct", spec := "fnExactWithoutProduct", apart := false, narrowed := true }
def FnExactWithoutProductUptoSaid : Prop := fnExactWithoutProductUptoRow.holds Try.pinned (OpenSpec.upto fnExactWithoutProductSpec)

end Rows
end Go.Proofs.Ytjdciikfbinchaa
