/-
  No cell of these rows narrows 'for every input' (looked for: loops, veiled, ifaces, maps, wideKeys, modest, calm, conditions, laid).
  DERIVED. THE GIVEN ROWS OF THIS SEAT. 12 by the template 'for every input the law returns true; each argument reads behind the call as it read before'; 0 by the template 'total and deterministic' (their statements: YtpjhlkidebcllaaTotals.lean).
  GIVEN WITH THE SEED: the statements are not yours to turn. If you find one false, say at which input.
  Laid BY PROGRAM, IN A SANDBOX (cutbox-rows.mjs): the forced cells as the released guide's own fill.sh prints them over the translation 5ea14a73af572cc4… (all of the seat's roots in one cut). By AI agents, Wed Nov 11 2026. No macro, syntax, notation, axiom, sorry.
-/
import Derived.Test.YtpjhlkidebcllaaChecked
import GoSem.Claim
import GoSem.ClaimJoined
import GoSem.ClaimMapViews
import Derived.JoinedTies
import Derived.KernelRfl
namespace Go.Proofs.Ytpjhlkidebcllaa
/- THE CELL 'sum', in the pinned program and in every row, IS THE sha256 OF THE DUMP (.gsa) THAT YtpjhlkidebcllaaProg.lean LOADS. Nothing in Lean hashes anything: it is a label: what it is worth is what the hold of that sum in a sandbox is worth. -/
noncomputable def Try.pinned : Pinned := { name := "ytpjhlkidebcllaa", sum := "5ea14a73af572cc40fefdd56c733ea1723679412f5c17a577cf4b26d9cd67dfb", checked := Try.checked }
namespace Rows
def none {H : Type} : Left H := { results := [], args := [] }

/-- 'laws.FnExactFlipsOf': WHATEVER THE INPUT: true; the input reads as it did. -/
def fnExactFlipsOfSpec : ChangeSpec := { name := "fnExactFlipsOf", fn := fun _ => fun
  | [d] => { results := [.lit (.bool true)], args := [d] }
  | _ => none }
def fnExactFlipsOfRow : OpenClaim := { program := "ytpjhlkidebcllaa", sum := "5ea14a73af572cc40fefdd56c733ea1723679412f5c17a577cf4b26d9cd67dfb", func := "loop.example/g01262/laws.FnExactFlipsOf", spec := "fnExactFlipsOf", apart := false }
def FnExactFlipsOfSaid : Prop := fnExactFlipsOfRow.holds Try.pinned (OpenSpec.ofChange fnExactFlipsOfSpec)

/-- ITS FALSE NEIGHBOUR: 'it returns false'. Refute it at one input. -/
def fnExactFlipsOfWrong : ChangeSpec := { name := "fnExactFlipsOf", fn := fun _ => fun
  | [d] => { results := [.lit (.bool false)], args := [d] }
  | _ => none }
def FnExactFlipsOfWrongFalsely : Prop := fnExactFlipsOfRow.holds Try.pinned (OpenSpec.ofChange fnExactFlipsOfWrong)

/-- 'laws.FnExactMultiplySchemes': WHATEVER THE INPUT: true; the input reads as it did. -/
def fnExactMultiplySchemesSpec : ChangeSpec := { name := "fnExactMultiplySchemes", fn := fun _ => fun
  | [d1, d2] => { results := [.lit (.bool true)], args := [d1, d2] }
  | _ => none }
def fnExactMultiplySchemesRow : OpenClaim := { program := "ytpjhlkidebcllaa", sum := "5ea14a73af572cc40fefdd56c733ea1723679412f5c17a577cf4b26d9cd67dfb", func := "loop.example/g01262/laws.FnExactMultiplySchemes", spec := "fnExactMultiplySchemes", apart := false }
def FnExactMultiplySchemesSaid : Prop := fnExactMultiplySchemesRow.holds Try.pinned (OpenSpec.ofChange fnExactMultiplySchemesSpec)

/-- ITS FALSE NEIGHBOUR: 'it returns false'. Refute it at one input. -/
def fnExactMultiplySchemesWrong : ChangeSpec := { name := "fnExactMultiplySchemes", fn := fun _ => fun
  | [d1, d2] => { results := [.lit (.bool false)], args := [d1, d2] }
  | _ => none }
def FnExactMultiplySchemesWrongFalsely : Prop := fnExactMultiplySchemesRow.holds Try.pinned (OpenSpec.ofChange fnExactMultiplySchemesWrong)

/-- 'laws.FnExactNormalProducts': WHATEVER THE INPUT: true; the input reads as it did. -/
def fnExactNormalProductsSpec : ChangeSpec := { name := "fnExactNormalProducts", fn := fun _ => fun
  | [d] => { results := [.lit (.bool true)], args := [d] }
  | _ => none }
def fnExactNormalProductsRow : OpenClaim := { program := "ytpjhlkidebcllaa", sum := "5ea14a73af572cc40fefdd56c733ea1723679412f5c17a577cf4b26d9cd67dfb", func := "loop.example/g01262/laws.FnExactNormalProducts", spec := "fnExactNormalProducts", apart := false }
def FnExactNormalProductsSaid : Prop := fnExactNormalProductsRow.holds Try.pinned (OpenSpec.ofChange fnExactNormalProductsSpec)

/-- ITS FALSE NEIGHBOUR: 'it returns false'. Refute it at one input. -/
def fnExactNormalProductsWrong : ChangeSpec := { name := "fnExactNormalProducts", fn := fun _ => fun
  | [d] => { results := [.lit (.bool false)], args := [d] }
  | _ => none }
def FnExactNormalProductsWrongFalsely : Prop := fnExactNormalProductsRow.holds Try.pinned (OpenSpec.ofChange fnExactNormalProductsWrong)

/-- 'laws.FnExactTurnScheme': WHATEVER THE INPUT: true; the input reads as it did. -/
def fnExactTurnSchemeSpec : ChangeSpec := { name := "fnExactTurnScheme", fn := fun _ => fun
  | [d] => { results := [.lit (.bool true)], args := [d] }
  | _ => none }
def fnExactTurnSchemeRow : OpenClaim := { program := "ytpjhlkidebcllaa", sum := "5ea14a73af572cc40fefdd56c733ea1723679412f5c17a577cf4b26d9cd67dfb", func := "loop.example/g01262/laws.FnExactTurnScheme", spec := "fnExactTurnScheme", apart := false }
def FnExactTurnSchemeSaid : Prop := fnExactTurnSchemeRow.holds Try.pinned (OpenSpec.ofChange fnExactTurnSchemeSpec)

/-- ITS FALSE NEIGHBOUR: 'it returns false'. Refute it at one input. -/
def fnExactTurnSchemeWrong : ChangeSpec := { name := "fnExactTurnScheme", fn := fun _ => fun
  | [d] => { results := [.lit (.bool false)], args := [d] }
  | _ => none }
def FnExactTurnSchemeWrongFalsely : Prop := fnExactTurnSchemeRow.holds Try.pinned (OpenSpec.ofChange fnExactTurnSchemeWrong)

/-- 'laws.FnExactTransposeScheme': WHATEVER THE INPUT: true; the input reads as it did. -/
def fnExactTransposeSchemeSpec : ChangeSpec := { name := "fnExactTransposeScheme", fn := fun _ => fun
  | [d] => { results := [.lit (.bool true)], args := [d] }
  | _ => none }
def fnExactTransposeSchemeRow : OpenClaim := { program := "ytpjhlkidebcllaa", sum := "5ea14a73af572cc40fefdd56c733ea1723679412f5c17a577cf4b26d9cd67dfb", func := "loop.example/g01262/laws.FnExactTransposeScheme", spec := "fnExactTransposeScheme", apart := false }
def FnExactTransposeSchemeSaid : Prop := fnExactTransposeSchemeRow.holds Try.pinned (OpenSpec.ofChange fnExactTransposeSchemeSpec)

/-- ITS FALSE NEIGHBOUR: 'it returns false'. Refute it at one input. -/
def fnExactTransposeSchemeWrong : ChangeSpec := { name := "fnExactTransposeScheme", fn := fun _ => fun
  | [d] => { results := [.lit (.bool false)], args := [d] }
  | _ => none }
def FnExactTransposeSchemeWrongFalsely : Prop := fnExactTransposeSchemeRow.holds Try.pinned (OpenSpec.ofChange fnExactTransposeSchemeWrong)

/-- 'laws.FnExactJoinCols': WHATEVER THE INPUT: true; the input reads as it did. -/
def fnExactJoinColsSpec : ChangeSpec := { name := "fnExactJoinCols", fn := fun _ => fun
  | [d1, d2] => { results := [.lit (.bool true)], args := [d1, d2] }
  | _ => none }
def fnExactJoinColsRow : OpenClaim := { program := "ytpjhlkidebcllaa", sum := "5ea14a73af572cc40fefdd56c733ea1723679412f5c17a577cf4b26d9cd67dfb", func := "loop.example/g01262/laws.FnExactJoinCols", spec := "fnExactJoinCols", apart := false }
def FnExactJoinColsSaid : Prop := fnExactJoinColsRow.holds Try.pinned (OpenSpec.ofChange fnExactJoinColsSpec)

/-- ITS FALSE NEIGHBOUR: 'it returns false'. Refute it at one input. -/
def fnExactJoinColsWrong : ChangeSpec := { name := "fnExactJoinCols", fn := fun _ => fun
  | [d1, d2] => { results := [.lit (.bool false)], args := [d1, d2] }
  | _ => none }
def FnExactJoinColsWrongFalsely : Prop := fnExactJoinColsRow.holds Try.pinned (OpenSpec.ofChange fnExactJoinColsWrong)

/-- 'laws.FnExactJoinInner': WHATEVER THE INPUT: true; the input reads as it did. -/
def fnExactJoinInnerSpec : ChangeSpec := { name := "fnExactJoinInner", fn := fun _ => fun
  | [d1, d2] => { results := [.lit (.bool true)], args := [d1, d2] }
  | _ => none }
def fnExactJoinInnerRow : OpenClaim := { program := "ytpjhlkidebcllaa", sum := "5ea14a73af572cc40fefdd56c733ea1723679412f5c17a577cf4b26d9cd67dfb", func := "loop.example/g01262/laws.FnExactJoinInner", spec := "fnExactJoinInner", apart := false }
def FnExactJoinInnerSaid : Prop := fnExactJoinInnerRow.holds Try.pinned (OpenSpec.ofChange fnExactJoinInnerSpec)

/-- ITS FALSE NEIGHBOUR: 'it returns false'. Refute it at one input. -/
def fnExactJoinInnerWrong : ChangeSpec := { name := "fnExactJoinInner", fn := fun _ => fun
  | [d1, d2] => { results := [.lit (.bool false)], args := [d1, d2] }
  | _ => none }
def FnExactJoinInnerWrongFalsely : Prop := fnExactJoinInnerRow.holds Try.pinned (OpenSpec.ofChange fnExactJoinInnerWrong)

/-- 'laws.FnExactJoinRows': WHATEVER THE INPUT: true; the input reads as it did. -/
def fnExactJoinRowsSpec : ChangeSpec := { name := "fnExactJoinRows", fn := fun _ => fun
  | [d1, d2] => { results := [.lit (.bool true)], args := [d1, d2] }
  | _ => none }
def fnExactJoinRowsRow : OpenClaim := { program := "ytpjhlkidebcllaa", sum := "5ea14a73af572cc40fefdd56c733ea1723679412f5c17a577cf4b26d9cd67dfb", func := "loop.example/g01262/laws.FnExactJoinRows", spec := "fnExactJoinRows", apart := false }
def FnExactJoinRowsSaid : Prop := fnExactJoinRowsRow.holds Try.pinned (OpenSpec.ofChange fnExactJoinRowsSpec)

/-- ITS FALSE NEIGHBOUR: 'it returns false'. Refute it at one input. -/
def fnExactJoinRowsWrong : ChangeSpec := { name := "fnExactJoinRows", fn := fun _ => fun
  | [d1, d2] => { results := [.lit (.bool false)], args := [d1, d2] }
  | _ => none }
def FnExactJoinRowsWrongFalsely : Prop := fnExactJoinRowsRow.holds Try.pinned (OpenSpec.ofChange fnExactJoinRowsWrong)

/-- 'laws.FnExactPlusMove': WHATEVER THE INPUT: true; the input reads as it did. -/
def fnExactPlusMoveSpec : ChangeSpec := { name := "fnExactPlusMove", fn := fun _ => fun
  | [d1, d2, d3] => { results := [.lit (.bool true)], args := [d1, d2, d3] }
  | _ => none }
def fnExactPlusMoveRow : OpenClaim := { program := "ytpjhlkidebcllaa", sum := "5ea14a73af572cc40fefdd56c733ea1723679412f5c17a577cf4b26d9cd67dfb", func := "loop.example/g01262/laws.FnExactPlusMove", spec := "fnExactPlusMove", unfollowed := true, recurses := true, apart := false }
def FnExactPlusMoveSaid : Prop := fnExactPlusMoveRow.holds Try.pinned (OpenSpec.ofChange fnExactPlusMoveSpec)

/-- ITS FALSE NEIGHBOUR: 'it returns false'. Refute it at one input. -/
def fnExactPlusMoveWrong : ChangeSpec := { name := "fnExactPlusMove", fn := fun _ => fun
  | [d1, d2, d3] => { results := [.lit (.bool false)], args := [d1, d2, d3] }
  | _ => none }
def FnExactPlusMoveWrongFalsely : Prop := fnExactPlusMoveRow.holds Try.pinned (OpenSpec.ofChange fnExactPlusMoveWrong)

/-- 'laws.FnExactSplitProduct': WHATEVER THE INPUT: true; the input reads as it did. -/
def fnExactSplitProductSpec : ChangeSpec := { name := "fnExactSplitProduct", fn := fun _ => fun
  | [d1, d2, d3, d4] => { results := [.lit (.bool true)], args := [d1, d2, d3, d4] }
  | _ => none }
def fnExactSplitProductRow : OpenClaim := { program := "ytpjhlkidebcllaa", sum := "5ea14a73af572cc40fefdd56c733ea1723679412f5c17a577cf4b26d9cd67dfb", func := "loop.example/g01262/laws.FnExactSplitProduct", spec := "fnExactSplitProduct", apart := false }
def FnExactSplitProductSaid : Prop := fnExactSplitProductRow.holds Try.pinned (OpenSpec.ofChange fnExactSplitProductSpec)

/-- ITS FALSE NEIGHBOUR: 'it returns false'. Refute it at one input. -/
def fnExactSplitProductWrong : ChangeSpec := { name := "fnExactSplitProduct", fn := fun _ => fun
  | [d1, d2, d3, d4] => { results := [.lit (.bool false)], args := [d1, d2, d3, d4] }
  | _ => none }
def FnExactSplitProductWrongFalsely : Prop := fnExactSplitProductRow.holds Try.pinned (OpenSpec.ofChange fnExactSplitProductWrong)

/-- 'laws.FnExactFlipProducts': WHATEVER THE INPUT: true; the input reads as it did. -/
def fnExactFlipProductsSpec : ChangeSpec := { name := "fnExactFlipProducts", fn := fun _ => fun
  | [d1, d2, d3, d4, d5] => { results := [.lit (.bool true)], args := [d1, d2, d3, d4, d5] }
  | _ => none }
def fnExactFlipProductsRow : OpenClaim := { program := "ytpjhlkidebcllaa", sum := "5ea14a73af572cc40fefdd56c733ea1723679412f5c17a577cf4b26d9cd67dfb", func := "loop.example/g01262/laws.FnExactFlipProducts", spec := "fnExactFlipProducts", unfollowed := true, recurses := true, apart := false }
def FnExactFlipProductsSaid : Prop := fnExactFlipProductsRow.holds Try.pinned (OpenSpec.ofChange fnExactFlipProductsSpec)

/-- ITS FALSE NEIGHBOUR: 'it returns false'. Refute it at one input. -/
def fnExactFlipProductsWrong : ChangeSpec := { name := "fnExactFlipProducts", fn := fun _ => fun
  | [d1, d2, d3, d4, d5] => { results := [.lit (.bool false)], args := [d1, d2, d3, d4, d5] }
  | _ => none }
def FnExactFlipProductsWrongFalsely : Prop := fnExactFlipProductsRow.holds Try.pinned (OpenSpec.ofChange fnExactFlipProductsWrong)

/-- 'laws.FnExactWalkFlips': WHATEVER THE INPUT: true; the input reads as it did. -/
def fnExactWalkFlipsSpec : ChangeSpec := { name := "fnExactWalkFlips", fn := fun _ => fun
  | [d1, d2] => { results := [.lit (.bool true)], args := [d1, d2] }
  | _ => none }
def fnExactWalkFlipsRow : OpenClaim := { program := "ytpjhlkidebcllaa", sum := "5ea14a73af572cc40fefdd56c733ea1723679412f5c17a577cf4b26d9cd67dfb", func := "loop.example/g01262/laws.FnExactWalkFlips", spec := "fnExactWalkFlips", unfollowed := true, recurses := true, apart := false }
def FnExactWalkFlipsSaid : Prop := fnExactWalkFlipsRow.holds Try.pinned (OpenSpec.ofChange fnExactWalkFlipsSpec)

/-- ITS FALSE NEIGHBOUR: 'it returns false'. Refute it at one input. -/
def fnExactWalkFlipsWrong : ChangeSpec := { name := "fnExactWalkFlips", fn := fun _ => fun
  | [d1, d2] => { results := [.lit (.bool false)], args := [d1, d2] }
  | _ => none }
def FnExactWalkFlipsWrongFalsely : Prop := fnExactWalkFlipsRow.holds Try.pinned (OpenSpec.ofChange fnExactWalkFlipsWrong)

/- THE SECOND FORM. 'bulk': how many values and letters a reading holds, each counted each time it is reached (what is shared counts as often as it is met; a slice's spare places count too). A statement '..UptoSaid' is the law's where the arguments, and the package variables that the reading takes, are together of bulk at most 1048576: NARROWER than '..Said'. Prove '..Said' where nothing that the law and all that it calls make is longer than what came in: it says more and counts as full. Else prove '..UptoSaid'. A law counts once. -/
mutual
def uptoBulk {H : Type} : DataW H → Nat
  | .lit (.string bytes) => bytes.length + 1
  | .lit _ => 1
  | .nil => 1
  | .ptr d => uptoBulk d + 1
  | .slice elems spare => uptoBulkAll elems + uptoBulkAll spare + 1
  | .agg parts => uptoBulkAll parts + 1
  | .iface _ d => uptoBulk d + 1
  | .map entries => uptoBulkEntries entries + 1
  | .held _ => 1
def uptoBulkAll {H : Type} : List (DataW H) → Nat
  | [] => 0
  | d :: r => uptoBulk d + uptoBulkAll r
def uptoBulkEntries {H : Type} : List (Lit × DataW H) → Nat
  | [] => 0
  | x :: r => uptoBulkEntry x + uptoBulkEntries r
def uptoBulkEntry {H : Type} : Lit × DataW H → Nat
  | (.string bytes, d) => bytes.length + uptoBulk d + 1
  | (_, d) => uptoBulk d + 1
 end
def uptoSmall : (H : Type) → List (DataW H) → Bool := fun _ ds => decide (uptoBulkAll ds ≤ 1048576)
def OpenSpec.upto (s : _root_.Go.ChangeSpec) : _root_.Go.OpenSpec := { _root_.Go.OpenSpec.ofChange s with cond := some uptoSmall }

/-- 'laws.FnExactFlipsOf', WHERE WHAT IT READS IS OF BULK AT MOST 1048576: true; the input reads as it did. -/
def fnExactFlipsOfUptoRow : OpenClaim := { program := "ytpjhlkidebcllaa", sum := "5ea14a73af572cc40fefdd56c733ea1723679412f5c17a577cf4b26d9cd67dfb", func := "loop.example/g01262/laws.FnExactFlipsOf", spec := "fnExactFlipsOf", apart := false, narrowed := true }
def FnExactFlipsOfUptoSaid : Prop := fnExactFlipsOfUptoRow.holds Try.pinned (OpenSpec.upto fnExactFlipsOfSpec)

/-- 'laws.FnExactMultiplySchemes', WHERE WHAT IT READS IS OF BULK AT MOST 1048576: true; the input reads as it did. -/
def fnExactMultiplySchemesUptoRow : OpenClaim := { program := "ytpjhlkidebcllaa", sum := "5ea14a73af572cc40fefdd56c733ea1723679412f5c17a577cf4b26d9cd67dfb", func := "loop.example/g01262/laws.FnExactMultiplySchemes", spec := "fnExactMultiplySchemes", apart := false, narrowed := true }
def FnExactMultiplySchemesUptoSaid : Prop := fnExactMultiplySchemesUptoRow.holds Try.pinned (OpenSpec.upto fnExactMultiplySchemesSpec)

/-- 'laws.FnExactNormalProducts', WHERE WHAT IT READS IS OF BULK AT MOST 1048576: true; the input reads as it did. -/
def fnExactNormalProductsUptoRow : OpenClaim := { program := "ytpjhlkidebcllaa", sum := "5ea14a73af572cc40fefdd56c733ea1723679412f5c17a577cf4b26d9cd67dfb", func := "loop.example/g01262/laws.FnExactNormalProducts", spec := "fnExactNormalProducts", apart := false, narrowed := true }
def FnExactNormalProductsUptoSaid : Prop := fnExactNormalProductsUptoRow.holds Try.pinned (OpenSpec.upto fnExactNormalProductsSpec)

/-- 'laws.FnExactTurnScheme', WHERE WHAT IT READS IS OF BULK AT MOST 1048576: true; the input reads as it did. -/
def fnExactTurnSchemeUptoRow : OpenClaim := { program := "ytpjhlkidebcllaa", sum := "5ea14a73af572cc40fefdd56c733ea1723679412f5c17a577cf4b26d9cd67dfb", func := "loop.example/g01262/laws.FnExactTurnScheme", spec := "fnExactTurnScheme", apart := false, narrowed := true }
def FnExactTurnSchemeUptoSaid : Prop := fnExactTurnSchemeUptoRow.holds Try.pinned (OpenSpec.upto fnExactTurnSchemeSpec)

/-- 'laws.FnExactTransposeScheme', WHERE WHAT IT READS IS OF BULK AT MOST 1048576: true; the input reads as it did. -/
def fnExactTransposeSchemeUptoRow : OpenClaim := { program := "ytpjhlkidebcllaa", sum := "5ea14a73af572cc40fefdd56c733ea1723679412f5c17a577cf4b26d9cd67dfb", func := "loop.example/g01262/laws.FnExactTransposeScheme", spec := "fnExactTransposeScheme", apart := false, narrowed := true }
def FnExactTransposeSchemeUptoSaid : Prop := fnExactTransposeSchemeUptoRow.holds Try.pinned (OpenSpec.upto fnExactTransposeSchemeSpec)

/-- 'laws.FnExactJoinCols', WHERE WHAT IT READS IS OF BULK AT MOST 1048576: true; the input reads as it did. -/
def fnExactJoinColsUptoRow : OpenClaim := { program := "ytpjhlkidebcllaa", sum := "5ea14a73af572cc40fefdd56c733ea1723679412f5c17a577cf4b26d9cd67dfb", func := "loop.example/g01262/laws.FnExactJoinCols", spec := "fnExactJoinCols", apart := false, narrowed := true }
def FnExactJoinColsUptoSaid : Prop := fnExactJoinColsUptoRow.holds Try.pinned (OpenSpec.upto fnExactJoinColsSpec)

/-- 'laws.FnExactJoinInner', WHERE WHAT IT READS IS OF BULK AT MOST 1048576: true; the input reads as it did. -/
def fnExactJoinInnerUptoRow : OpenClaim := { program := "ytpjhlkidebcllaa", sum := "5ea14a73af572cc40fefdd56c733ea1723679412f5c17a577cf4b26d9cd67dfb", func := "loop.example/g01262/laws.FnExactJoinInner", spec := "fnExactJoinInner", apart := false, narrowed := true }
def FnExactJoinInnerUptoSaid : Prop := fnExactJoinInnerUptoRow.holds Try.pinned (OpenSpec.upto fnExactJoinInnerSpec)

/-- 'laws.FnExactJoinRows', WHERE WHAT IT READS IS OF BULK AT MOST 1048576: true; the input reads as it did. -/
def fnExactJoinRowsUptoRow : OpenClaim := { program := "ytpjhlkidebcllaa", sum := "5ea14a73af572cc40fefdd56c733ea1723679412f5c17a577cf4b26d9cd67dfb", func := "loop.example/g01262/laws.FnExactJoinRows", spec := "fnExactJoinRows", apart := false, narrowed := true }
def FnExactJoinRowsUptoSaid : Prop := fnExactJoinRowsUptoRow.holds Try.pinned (OpenSpec.upto fnExactJoinRowsSpec)

/-- 'laws.FnExactPlusMove', WHERE WHAT IT READS IS OF BULK AT MOST 1048576: true; the input reads as it did. -/
def fnExactPlusMoveUptoRow : OpenClaim := { program := "ytpjhlkidebcllaa", sum := "5ea14a73af572cc40fefdd56c733ea1723679412f5c17a577cf4b26d9cd67dfb", func := "loop.example/g01262/laws.FnExactPlusMove", spec := "fnExactPlusMove", unfollowed := true, recurses := true, apart := false, narrowed := true }
def FnExactPlusMoveUptoSaid : Prop := fnExactPlusMoveUptoRow.holds Try.pinned (OpenSpec.upto fnExactPlusMoveSpec)

/-- 'laws.FnExactSplitProduct', WHERE WHAT IT READS IS OF BULK AT MOST 1048576: true; the input reads as it did. -/
def fnExactSplitProductUptoRow : OpenClaim := { program := "ytpjhlkidebcllaa", sum := "5ea14a73af572cc40fefdd56c733ea1723679412f5c17a577cf4b26d9cd67dfb", func := "loop.example/g01262/laws.FnExactSplitProduct", spec := "fnExactSplitProduct", apart := false, narrowed := true }
def FnExactSplitProductUptoSaid : Prop := fnExactSplitProductUptoRow.holds Try.pinned (OpenSpec.upto fnExactSplitProductSpec)

/-- 'laws.FnExactFlipProducts', WHERE WHAT IT READS IS OF BULK AT MOST 1048576: true; the input reads as it did. -/
def fnExactFlipProductsUptoRow : OpenClaim := { program := "ytpjhlkidebcllaa", sum := "5ea14a73af572cc40fefdd56c733ea1723679412f5c17a577cf4b26d9cd67dfb", func := "loop.example/g01262/laws.FnExactFlipProducts", spec := "fnExactFlipProducts", unfollowed := true, recurses := true, apart := false, narrowed := true }
def FnExactFlipProductsUptoSaid : Prop := fnExactFlipProductsUptoRow.holds Try.pinned (OpenSpec.upto fnExactFlipProductsSpec)

/-- 'laws.FnExactWalkFlips', WHERE WHAT IT READS IS OF BULK AT MOST 1048576: true; the input reads as it did. -/
def fnExactWalkFlipsUptoRow : OpenClaim := { program := "ytpjhlkidebcllaa", sum := "5ea14a73af572cc40fefdd56c733ea1723679412f5c17a577cf4b26d9cd67dfb", func := "loop.example/g01262/laws.FnExactWalkFlips", spec := "fnExactWalkFlips", unfollowed := true, recurses := true, apart := false, narrowed := true }
def FnExactWalkFlipsUptoSaid : Prop := fnExactWalkFlipsUptoRow.holds Try.pinned (OpenSpec.upto fnExactWalkFlipsSpec)

end Rows
end Go.Proofs.Ytpjhlkidebcllaa
