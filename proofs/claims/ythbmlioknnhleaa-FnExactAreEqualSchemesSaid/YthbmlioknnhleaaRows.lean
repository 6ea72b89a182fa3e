/-
  No cell of these rows narrows 'for every input' (looked for: loops, veiled, ifaces, maps, wideKeys, modest, calm, conditions, laid).
  DERIVED. THE GIVEN ROWS OF THIS SEAT. 11 by the template 'for every input the law returns true; each argument reads behind the call as it read before'; 0 by the template 'total and deterministic' (their statements: YthbmlioknnhleaaTotals.lean).
  GIVEN WITH THE SEED: the statements are not yours to turn. If you find one false, say at which input.
  Laid BY PROGRAM, IN A SANDBOX (cutbox-rows.mjs): the forced cells as the released guide's own fill.sh prints them over the translation 5ab86e0e69301f84… (all of the seat's roots in one cut). By AI agents, Wed Nov 11 2026. No macro, syntax, notation, axiom, sorry.
-/
import Derived.Test.YthbmlioknnhleaaChecked
import GoSem.Claim
import GoSem.ClaimJoined
import GoSem.ClaimMapViews
import Derived.JoinedTies
import Derived.KernelRfl
namespace Go.Proofs.Ythbmlioknnhleaa
/- THE CELL 'sum', in the pinned program and in every row, IS THE sha256 OF THE DUMP (.gsa) THAT YthbmlioknnhleaaProg.lean LOADS. Nothing in Lean hashes anything: it is a label: what it is worth is what the hold of that sum in a sandbox is worth. -/
noncomputable def Try.pinned : Pinned := { name := "ythbmlioknnhleaa", sum := "5ab86e0e69301f843ce83dc3b652cf43b7b19df7a60bd3f493e04753da38be85", checked := Try.checked }
namespace Rows
def none {H : Type} : Left H := { results := [], args := [] }

/-- 'laws.FnExactIsInvertible': WHATEVER THE INPUT: true; the input reads as it did. -/
def fnExactIsInvertibleSpec : ChangeSpec := { name := "fnExactIsInvertible", fn := fun _ => fun
  | [d1, d2] => { results := [.lit (.bool true)], args := [d1, d2] }
  | _ => none }
def fnExactIsInvertibleRow : OpenClaim := { program := "ythbmlioknnhleaa", sum := "5ab86e0e69301f843ce83dc3b652cf43b7b19df7a60bd3f493e04753da38be85", func := "loop.example/g01262/laws.FnExactIsInvertible", spec := "fnExactIsInvertible", unfollowed := true, recurses := true, apart := false }
def FnExactIsInvertibleSaid : Prop := fnExactIsInvertibleRow.holds Try.pinned (OpenSpec.ofChange fnExactIsInvertibleSpec)

/-- ITS FALSE NEIGHBOUR: 'it returns false'. Refute it at one input. -/
def fnExactIsInvertibleWrong : ChangeSpec := { name := "fnExactIsInvertible", fn := fun _ => fun
  | [d1, d2] => { results := [.lit (.bool false)], args := [d1, d2] }
  | _ => none }
def FnExactIsInvertibleWrongFalsely : Prop := fnExactIsInvertibleRow.holds Try.pinned (OpenSpec.ofChange fnExactIsInvertibleWrong)

/-- 'laws.FnExactInverseSquare': WHATEVER THE INPUT: true; the input reads as it did. -/
def fnExactInverseSquareSpec : ChangeSpec := { name := "fnExactInverseSquare", fn := fun _ => fun
  | [d1, d2] => { results := [.lit (.bool true)], args := [d1, d2] }
  | _ => none }
def fnExactInverseSquareRow : OpenClaim := { program := "ythbmlioknnhleaa", sum := "5ab86e0e69301f843ce83dc3b652cf43b7b19df7a60bd3f493e04753da38be85", func := "loop.example/g01262/laws.FnExactInverseSquare", spec := "fnExactInverseSquare", unfollowed := true, recurses := true, apart := false }
def FnExactInverseSquareSaid : Prop := fnExactInverseSquareRow.holds Try.pinned (OpenSpec.ofChange fnExactInverseSquareSpec)

/-- ITS FALSE NEIGHBOUR: 'it returns false'. Refute it at one input. -/
def fnExactInverseSquareWrong : ChangeSpec := { name := "fnExactInverseSquare", fn := fun _ => fun
  | [d1, d2] => { results := [.lit (.bool false)], args := [d1, d2] }
  | _ => none }
def FnExactInverseSquareWrongFalsely : Prop := fnExactInverseSquareRow.holds Try.pinned (OpenSpec.ofChange fnExactInverseSquareWrong)

/-- 'laws.FnExactRanksOf': WHATEVER THE INPUT: true; the input reads as it did. -/
def fnExactRanksOfSpec : ChangeSpec := { name := "fnExactRanksOf", fn := fun _ => fun
  | [d] => { results := [.lit (.bool true)], args := [d] }
  | _ => none }
def fnExactRanksOfRow : OpenClaim := { program := "ythbmlioknnhleaa", sum := "5ab86e0e69301f843ce83dc3b652cf43b7b19df7a60bd3f493e04753da38be85", func := "loop.example/g01262/laws.FnExactRanksOf", spec := "fnExactRanksOf", unfollowed := true, recurses := true, apart := false }
def FnExactRanksOfSaid : Prop := fnExactRanksOfRow.holds Try.pinned (OpenSpec.ofChange fnExactRanksOfSpec)

/-- ITS FALSE NEIGHBOUR: 'it returns false'. Refute it at one input. -/
def fnExactRanksOfWrong : ChangeSpec := { name := "fnExactRanksOf", fn := fun _ => fun
  | [d] => { results := [.lit (.bool false)], args := [d] }
  | _ => none }
def FnExactRanksOfWrongFalsely : Prop := fnExactRanksOfRow.holds Try.pinned (OpenSpec.ofChange fnExactRanksOfWrong)

/-- 'laws.FnExactReduceScheme': WHATEVER THE INPUT: true; the input reads as it did. -/
def fnExactReduceSchemeSpec : ChangeSpec := { name := "fnExactReduceScheme", fn := fun _ => fun
  | [d] => { results := [.lit (.bool true)], args := [d] }
  | _ => none }
def fnExactReduceSchemeRow : OpenClaim := { program := "ythbmlioknnhleaa", sum := "5ab86e0e69301f843ce83dc3b652cf43b7b19df7a60bd3f493e04753da38be85", func := "loop.example/g01262/laws.FnExactReduceScheme", spec := "fnExactReduceScheme", apart := false }
def FnExactReduceSchemeSaid : Prop := fnExactReduceSchemeRow.holds Try.pinned (OpenSpec.ofChange fnExactReduceSchemeSpec)

/-- ITS FALSE NEIGHBOUR: 'it returns false'. Refute it at one input. -/
def fnExactReduceSchemeWrong : ChangeSpec := { name := "fnExactReduceScheme", fn := fun _ => fun
  | [d] => { results := [.lit (.bool false)], args := [d] }
  | _ => none }
def FnExactReduceSchemeWrongFalsely : Prop := fnExactReduceSchemeRow.holds Try.pinned (OpenSpec.ofChange fnExactReduceSchemeWrong)

/-- 'laws.FnExactSortScheme': WHATEVER THE INPUT: true; the input reads as it did. -/
def fnExactSortSchemeSpec : ChangeSpec := { name := "fnExactSortScheme", fn := fun _ => fun
  | [d] => { results := [.lit (.bool true)], args := [d] }
  | _ => none }
def fnExactSortSchemeRow : OpenClaim := { program := "ythbmlioknnhleaa", sum := "5ab86e0e69301f843ce83dc3b652cf43b7b19df7a60bd3f493e04753da38be85", func := "loop.example/g01262/laws.FnExactSortScheme", spec := "fnExactSortScheme", unfollowed := true, recurses := true, apart := false }
def FnExactSortSchemeSaid : Prop := fnExactSortSchemeRow.holds Try.pinned (OpenSpec.ofChange fnExactSortSchemeSpec)

/-- ITS FALSE NEIGHBOUR: 'it returns false'. Refute it at one input. -/
def fnExactSortSchemeWrong : ChangeSpec := { name := "fnExactSortScheme", fn := fun _ => fun
  | [d] => { results := [.lit (.bool false)], args := [d] }
  | _ => none }
def FnExactSortSchemeWrongFalsely : Prop := fnExactSortSchemeRow.holds Try.pinned (OpenSpec.ofChange fnExactSortSchemeWrong)

/-- 'laws.FnExactAreEqualSchemes': WHATEVER THE INPUT: true; the input reads as it did. -/
def fnExactAreEqualSchemesSpec : ChangeSpec := { name := "fnExactAreEqualSchemes", fn := fun _ => fun
  | [d1, d2] => { results := [.lit (.bool true)], args := [d1, d2] }
  | _ => none }
def fnExactAreEqualSchemesRow : OpenClaim := { program := "ythbmlioknnhleaa", sum := "5ab86e0e69301f843ce83dc3b652cf43b7b19df7a60bd3f493e04753da38be85", func := "loop.example/g01262/laws.FnExactAreEqualSchemes", spec := "fnExactAreEqualSchemes", unfollowed := true, recurses := true, apart := false }
def FnExactAreEqualSchemesSaid : Prop := fnExactAreEqualSchemesRow.holds Try.pinned (OpenSpec.ofChange fnExactAreEqualSchemesSpec)

/-- ITS FALSE NEIGHBOUR: 'it returns false'. Refute it at one input. -/
def fnExactAreEqualSchemesWrong : ChangeSpec := { name := "fnExactAreEqualSchemes", fn := fun _ => fun
  | [d1, d2] => { results := [.lit (.bool false)], args := [d1, d2] }
  | _ => none }
def FnExactAreEqualSchemesWrongFalsely : Prop := fnExactAreEqualSchemesRow.holds Try.pinned (OpenSpec.ofChange fnExactAreEqualSchemesWrong)

/-- 'laws.FnExactScaledScheme': WHATEVER THE INPUT: true; the input reads as it did. -/
def fnExactScaledSchemeSpec : ChangeSpec := { name := "fnExactScaledScheme", fn := fun _ => fun
  | [d] => { results := [.lit (.bool true)], args := [d] }
  | _ => none }
def fnExactScaledSchemeRow : OpenClaim := { program := "ythbmlioknnhleaa", sum := "5ab86e0e69301f843ce83dc3b652cf43b7b19df7a60bd3f493e04753da38be85", func := "loop.example/g01262/laws.FnExactScaledScheme", spec := "fnExactScaledScheme", unfollowed := true, recurses := true, apart := false }
def FnExactScaledSchemeSaid : Prop := fnExactScaledSchemeRow.holds Try.pinned (OpenSpec.ofChange fnExactScaledSchemeSpec)

/-- ITS FALSE NEIGHBOUR: 'it returns false'. Refute it at one input. -/
def fnExactScaledSchemeWrong : ChangeSpec := { name := "fnExactScaledScheme", fn := fun _ => fun
  | [d] => { results := [.lit (.bool false)], args := [d] }
  | _ => none }
def FnExactScaledSchemeWrongFalsely : Prop := fnExactScaledSchemeRow.holds Try.pinned (OpenSpec.ofChange fnExactScaledSchemeWrong)

/-- 'laws.FnExactProfileOf': WHATEVER THE INPUT: true; the input reads as it did. -/
def fnExactProfileOfSpec : ChangeSpec := { name := "fnExactProfileOf", fn := fun _ => fun
  | [d] => { results := [.lit (.bool true)], args := [d] }
  | _ => none }
def fnExactProfileOfRow : OpenClaim := { program := "ythbmlioknnhleaa", sum := "5ab86e0e69301f843ce83dc3b652cf43b7b19df7a60bd3f493e04753da38be85", func := "loop.example/g01262/laws.FnExactProfileOf", spec := "fnExactProfileOf", unfollowed := true, recurses := true, apart := false }
def FnExactProfileOfSaid : Prop := fnExactProfileOfRow.holds Try.pinned (OpenSpec.ofChange fnExactProfileOfSpec)

/-- ITS FALSE NEIGHBOUR: 'it returns false'. Refute it at one input. -/
def fnExactProfileOfWrong : ChangeSpec := { name := "fnExactProfileOf", fn := fun _ => fun
  | [d] => { results := [.lit (.bool false)], args := [d] }
  | _ => none }
def FnExactProfileOfWrongFalsely : Prop := fnExactProfileOfRow.holds Try.pinned (OpenSpec.ofChange fnExactProfileOfWrong)

/-- 'laws.FnExactChangeScheme': WHATEVER THE INPUT: true; the input reads as it did. -/
def fnExactChangeSchemeSpec : ChangeSpec := { name := "fnExactChangeScheme", fn := fun _ => fun
  | [d1, d2, d3, d4] => { results := [.lit (.bool true)], args := [d1, d2, d3, d4] }
  | _ => none }
def fnExactChangeSchemeRow : OpenClaim := { program := "ythbmlioknnhleaa", sum := "5ab86e0e69301f843ce83dc3b652cf43b7b19df7a60bd3f493e04753da38be85", func := "loop.example/g01262/laws.FnExactChangeScheme", spec := "fnExactChangeScheme", unfollowed := true, recurses := true, apart := false }
def FnExactChangeSchemeSaid : Prop := fnExactChangeSchemeRow.holds Try.pinned (OpenSpec.ofChange fnExactChangeSchemeSpec)

/-- ITS FALSE NEIGHBOUR: 'it returns false'. Refute it at one input. -/
def fnExactChangeSchemeWrong : ChangeSpec := { name := "fnExactChangeScheme", fn := fun _ => fun
  | [d1, d2, d3, d4] => { results := [.lit (.bool false)], args := [d1, d2, d3, d4] }
  | _ => none }
def FnExactChangeSchemeWrongFalsely : Prop := fnExactChangeSchemeRow.holds Try.pinned (OpenSpec.ofChange fnExactChangeSchemeWrong)

/-- 'laws.FnExactStabiliserNumber': WHATEVER THE INPUT: true; the input reads as it did. -/
def fnExactStabiliserNumberSpec : ChangeSpec := { name := "fnExactStabiliserNumber", fn := fun _ => fun
  | [d] => { results := [.lit (.bool true)], args := [d] }
  | _ => none }
def fnExactStabiliserNumberRow : OpenClaim := { program := "ythbmlioknnhleaa", sum := "5ab86e0e69301f843ce83dc3b652cf43b7b19df7a60bd3f493e04753da38be85", func := "loop.example/g01262/laws.FnExactStabiliserNumber", spec := "fnExactStabiliserNumber", unfollowed := true, recurses := true, apart := false }
def FnExactStabiliserNumberSaid : Prop := fnExactStabiliserNumberRow.holds Try.pinned (OpenSpec.ofChange fnExactStabiliserNumberSpec)

/-- ITS FALSE NEIGHBOUR: 'it returns false'. Refute it at one input. -/
def fnExactStabiliserNumberWrong : ChangeSpec := { name := "fnExactStabiliserNumber", fn := fun _ => fun
  | [d] => { results := [.lit (.bool false)], args := [d] }
  | _ => none }
def FnExactStabiliserNumberWrongFalsely : Prop := fnExactStabiliserNumberRow.holds Try.pinned (OpenSpec.ofChange fnExactStabiliserNumberWrong)

/-- 'laws.FnExactAreEquivalent': WHATEVER THE INPUT: true; the input reads as it did. -/
def fnExactAreEquivalentSpec : ChangeSpec := { name := "fnExactAreEquivalent", fn := fun _ => fun
  | [d1, d2] => { results := [.lit (.bool true)], args := [d1, d2] }
  | _ => none }
def fnExactAreEquivalentRow : OpenClaim := { program := "ythbmlioknnhleaa", sum := "5ab86e0e69301f843ce83dc3b652cf43b7b19df7a60bd3f493e04753da38be85", func := "loop.example/g01262/laws.FnExactAreEquivalent", spec := "fnExactAreEquivalent", unfollowed := true, recurses := true, apart := false }
def FnExactAreEquivalentSaid : Prop := fnExactAreEquivalentRow.holds Try.pinned (OpenSpec.ofChange fnExactAreEquivalentSpec)

/-- ITS FALSE NEIGHBOUR: 'it returns false'. Refute it at one input. -/
def fnExactAreEquivalentWrong : ChangeSpec := { name := "fnExactAreEquivalent", fn := fun _ => fun
  | [d1, d2] => { results := [.lit (.bool false)], args := [d1, d2] }
  | _ => none }
def FnExactAreEquivalentWrongFalsely : Prop := fnExactAreEquivalentRow.holds Try.pinned (OpenSpec.ofChange fnExactAreEquivalentWrong)

/- THE SECOND FORM. 'bulk': how many values and letters a reading holds, each counted each time it is reached (what is shared counts as often as it is met; a slice's spare places count too). A statement '..UptoSaid' is the law's where the arguments, and the package variables that the reading takes, are together of bulk at most 1048576: NARROWER than '..Said'. Prove '..Said' where nothing that the law and all that it calls make is longer than what came in: it says more and counts as full. Else prove '..UptoSaid'. A law counts once. -/
mutual
def uptoBulk {H : Type} : DataW H → Nat
  | .lit (.string bytes) => bytes.length + 1
  | .lit _ => 1
  | .nil => 1
  | .ptr d => uptoBulk d + 1
  | .slice elems spare => uptoBulkAll elems + uptoBulkAll spare + 1
  | .agg parts => uptoBulkAll parts + 1
  | .iface _ d => uptoBulk d + 1
  | .map entries => uptoBulkEntries entries + 1
  | .held _ => 1
def uptoBulkAll {H : Type} : List (DataW H) → Nat
  | [] => 0
  | d :: r => uptoBulk d + uptoBulkAll r
def uptoBulkEntries {H : Type} : List (Lit × DataW H) → Nat
  | [] => 0
  | x :: r => uptoBulkEntry x + uptoBulkEntries r
def uptoBulkEntry {H : Type} : Lit × DataW H → Nat
  | (.string bytes, d) => bytes.length + uptoBulk d + 1
  | (_, d) => uptoBulk d + 1
 end
def uptoSmall : (H : Type) → List (DataW H) → Bool := fun _ ds => decide (uptoBulkAll ds ≤ 1048576)
def OpenSpec.upto (s : _root_.Go.ChangeSpec) : _root_.Go.OpenSpec := { _root_.Go.OpenSpec.ofChange s with cond := some uptoSmall }

/-- 'laws.FnExactIsInvertible', WHERE WHAT IT READS IS OF BULK AT MOST 1048576: true; the input reads as it did. -/
def fnExactIsInvertibleUptoRow : OpenClaim := { program := "ythbmlioknnhleaa", sum := "5ab86e0e69301f843ce83dc3b652cf43b7b19df7a60bd3f493e04753da38be85", func := "loop.example/g01262/laws.FnExactIsInvertible", spec := "fnExactIsInvertible", unfollowed := true, recurses := true, apart := false, narrowed := true }
def FnExactIsInvertibleUptoSaid : Prop := fnExactIsInvertibleUptoRow.holds Try.pinned (OpenSpec.upto fnExactIsInvertibleSpec)

/-- 'laws.FnExactInverseSquare', WHERE WHAT IT READS IS OF BULK AT MOST 1048576: true; the input reads as it did. -/
def fnExactInverseSquareUptoRow : OpenClaim := { program := "ythbmlioknnhleaa", sum := "5ab86e0e69301f843ce83dc3b652cf43b7b19df7a60bd3f493e04753da38be85", func := "loop.example/g01262/laws.FnExactInverseSquare", spec := "fnExactInverseSquare", unfollowed := true, recurses := true, apart := false, narrowed := true }
def FnExactInverseSquareUptoSaid : Prop := fnExactInverseSquareUptoRow.holds Try.pinned (OpenSpec.upto fnExactInverseSquareSpec)

/-- 'laws.FnExactRanksOf', WHERE WHAT IT READS IS OF BULK AT MOST 1048576: true; the input reads as it did. -/
def fnExactRanksOfUptoRow : OpenClaim := { program := "ythbmlioknnhleaa", sum := "5ab86e0e69301f843ce83dc3b652cf43b7b19df7a60bd3f493e04753da38be85", func := "loop.example/g01262/laws.FnExactRanksOf", spec := "fnExactRanksOf", unfollowed := true, recurses := true, apart := false, narrowed := true }
def FnExactRanksOfUptoSaid : Prop := fnExactRanksOfUptoRow.holds Try.pinned (OpenSpec.upto fnExactRanksOfSpec)

/-- 'laws.FnExactReduceScheme', WHERE WHAT IT READS IS OF BULK AT MOST 1048576: true; the input reads as it did. -/
def fnExactReduceSchemeUptoRow : OpenClaim := { program := "ythbmlioknnhleaa", sum := "5ab86e0e69301f843ce83dc3b652cf43b7b19df7a60bd3f493e04753da38be85", func := "loop.example/g01262/laws.FnExactReduceScheme", spec := "fnExactReduceScheme", apart := false, narrowed := true }
def FnExactReduceSchemeUptoSaid : Prop := fnExactReduceSchemeUptoRow.holds Try.pinned (OpenSpec.upto fnExactReduceSchemeSpec)

/-- 'laws.FnExactSortScheme', WHERE WHAT IT READS IS OF BULK AT MOST 1048576: true; the input reads as it did. -/
def fnExactSortSchemeUptoRow : OpenClaim := { program := "ythbmlioknnhleaa", sum := "5ab86e0e69301f843ce83dc3b652cf43b7b19df7a60bd3f493e04753da38be85", func := "loop.example/g01262/laws.FnExactSortScheme", spec := "fnExactSortScheme", unfollowed := true, recurses := true, apart := false, narrowed := true }
def FnExactSortSchemeUptoSaid : Prop := fnExactSortSchemeUptoRow.holds Try.pinned (OpenSpec.upto fnExactSortSchemeSpec)

/-- 'laws.FnExactAreEqualSchemes', WHERE WHAT IT READS IS OF BULK AT MOST 1048576: true; the input reads as it did. -/
def fnExactAreEqualSchemesUptoRow : OpenClaim := { program := "ythbmlioknnhleaa", sum := "5ab86e0e69301f843ce83dc3b652cf43b7b19df7a60bd3f493e04753da38be85", func := "loop.example/g01262/laws.FnExactAreEqualSchemes", spec := "fnExactAreEqualSchemes", unfollowed := true, recurses := true, apart := false, narrowed := true }
def FnExactAreEqualSchemesUptoSaid : Prop := fnExactAreEqualSchemesUptoRow.holds Try.pinned (OpenSpec.upto fnExactAreEqualSchemesSpec)

/-- 'laws.FnExactScaledScheme', WHERE WHAT IT READS IS OF BULK AT MOST 1048576: true; the input reads as it did. -/
def fnExactScaledSchemeUptoRow : OpenClaim := { program := "ythbmlioknnhleaa", sum := "5ab86e0e69301f843ce83dc3b652cf43b7b19df7a60bd3f493e04753da38be85", func := "loop.example/g01262/laws.FnExactScaledScheme", spec := "fnExactScaledScheme", unfollowed := true, recurses := true, apart := false, narrowed := true }
def FnExactScaledSchemeUptoSaid : Prop := fnExactScaledSchemeUptoRow.holds Try.pinned (OpenSpec.upto fnExactScaledSchemeSpec)

/-- 'laws.FnExactProfileOf', WHERE WHAT IT READS IS OF BULK AT MOST 1048576: true; the input reads as it did. -/
def fnExactProfileOfUptoRow : OpenClaim := { program := "ythbmlioknnhleaa", sum := "5ab86e0e69301f843ce83dc3b652cf43b7b19df7a60bd3f493e04753da38be85", func := "loop.example/g01262/laws.FnExactProfileOf", spec := "fnExactProfileOf", unfollowed := true, recurses := true, apart := false, narrowed := true }
def FnExactProfileOfUptoSaid : Prop := fnExactProfileOfUptoRow.holds Try.pinned (OpenSpec.upto fnExactProfileOfSpec)

/-- 'laws.FnExactChangeScheme', WHERE WHAT IT READS IS OF BULK AT MOST 1048576: true; the input reads as it did. -/
def fnExactChangeSchemeUptoRow : OpenClaim := { program := "ythbmlioknnhleaa", sum := "5ab86e0e69301f843ce83dc3b652cf43b7b19df7a60bd3f493e04753da38be85", func := "loop.example/g01262/laws.FnExactChangeScheme", spec := "fnExactChangeScheme", unfollowed := true, recurses := true, apart := false, narrowed := true }
def FnExactChangeSchemeUptoSaid : Prop := fnExactChangeSchemeUptoRow.holds Try.pinned (OpenSpec.upto fnExactChangeSchemeSpec)

/-- 'laws.FnExactStabiliserNumber', WHERE WHAT IT READS IS OF BULK AT MOST 1048576: true; the input reads as it did. -/
def fnExactStabiliserNumberUptoRow : OpenClaim := { program := "ythbmlioknnhleaa", sum := "5ab86e0e69301f843ce83dc3b652cf43b7b19df7a60bd3f493e04753da38be85", func := "loop.example/g01262/laws.FnExactStabiliserNumber", spec := "fnExactStabiliserNumber", unfollowed := true, recurses := true, apart := false, narrowed := true }
def FnExactStabiliserNumberUptoSaid : Prop := fnExactStabiliserNumberUptoRow.holds Try.pinned (OpenSpec.upto fnExactStabiliserNumberSpec)

/-- 'laws.FnExactAreEquivalent', WHERE WHAT IT READS IS OF BULK AT MOST 1048576: true; the input reads as it did. -/
def fnExactAreEquivalentUptoRow : OpenClaim := { program := "ythbmlioknnhleaa", sum := "5ab86e0e69301f843ce83dc3b652cf43b7b19df7a60bd3f493e04753da38be85", func := "loop.example/g01262/laws.FnExactAreEquivalent", spec := "fnExactAreEquivalent", unfollowed := true, recurses := true, apart := false, narrowed := true }
def FnExactAreEquivalentUptoSaid : Prop := fnExactAreEquivalentUptoRow.holds Try.pinned (OpenSpec.upto fnExactAreEquivalentSpec)

end Rows
end Go.Proofs.Ythbmlioknnhleaa
