/- FnExactScaledScheme holds: The program's ScaledScheme returns what the reference's returns, for all arguments. -/
import Derived.Test.YthbmlioknnhleaaRows
import Derived.Test.YthbmlioknnhleaaLScaledScheme
import Derived.Test.YthbmlioknnhleaaOpen
import Derived.WalkKit
import Derived.ProofKit
import Derived.OpenShut
import Derived.ChangeOld
import Derived.Carry
import Derived.Below
import Derived.SizedLaws
namespace Go.Proofs.Ythbmlioknnhleaa.fnExactScaledScheme
open Go Go.Proofs.Ythbmlioknnhleaa Go.ChangeShapes Go.WideShapes Go.ChangeAt Go.RowKit
set_option linter.unusedVariables false
theorem own : ownKnob Try.prog.godebug = none := by kernel_rfl
theorem laidOut : laidOutB Try.prog = true := by kernel_rfl

set_option maxRecDepth 100000 in
theorem lifted (os : Os) (started : os.Started) (H : Type) (enc : TypeId × Value → H) :
    ReturnsInHanded {} Try.checked os 9 .any (Rows.fnExactScaledSchemeSpec.pre6 enc Try.prog Try.f9 Rows.fnExactScaledSchemeRow.domain false) (Rows.fnExactScaledSchemeSpec.post enc Try.prog Try.f9 false true false false) := by
  refine returnsInHanded_of_change_sized (C := Try.checked) own started (by kernel_rfl) Try.func9
    (ChangeSpec.witness6 (enc := enc) (C := Try.checked) false ⟨#[], #[.agg #[.int .i64 0, .int .i64 0, .int .i64 0, .int .i64 0, .slice none 0 0]], []⟩ 8 (by kernel_rfl) (by kernel_rfl) (by kernel_rfl) (by kernel_rfl)) ?_
  intro W base args ds gs before hval0 hW hcnd hsz0 _
  have hval : ∀ (j : Nat) t v, Try.f9.params[j]? = some t → args[j]? = some v → Value.okWide Try.prog W .any base t v := hval0
  have hW' := hW
  obtain ⟨p, q, hA0, hV, rfl, hfz, hnd⟩ := hW
  have hA : DataW.TrodAll enc Try.prog W 0 (fun _ => true) true Try.f9.params.toList args.toList ds p := hA0
  rw [Try.params9] at hA hval
  obtain ⟨v0, vs0, d0, ds0, p0, q0, hargs, rfl, rfl, h0, r0⟩ := trodAll_cons hA
  obtain ⟨rfl, rfl, rfl⟩ := trodAll_nil r0
  obtain rfl : args = #[v0] := by cases args; simp_all
  obtain ⟨rfl, rfl⟩ := trodVars_none hV
  have k0 := h0
  have lt0 : ∀ x ∈ p0, x.block < W.heap.size := by obtain ⟨m, hm⟩ := k0; exact DataW.trod_lt m _ _ _ hm
  obtain ⟨a0, b0, c0, e0, n0, x0, rel0, s10, s20, s30, s40, hn0, hq0⟩ := Abs.open_scheme (t := 33) (ti := 2) (ts := 31) (e := 97) (sz := 27) (by kernel_rfl) (by omega) (hval 0 _ v0 rfl rfl) h0
  refine ((Fn.exactScaledScheme_law a0 b0 c0 e0 n0 x0 hn0 hq0).calls (xs := #[v0]) rfl rfl (Fn.argsA (Fn.argsL rel0 Fn.argsN))).mono fun e W' ⟨he, bel⟩ => ?_
  subst he
  exact ⟨_, rfl, _, _, _, [], _, [], hW', trodAll_mk1 (shut_bool Try.underlying4 _), (trodAll_cons_mk (Below.trod laidOut (by kernel_rfl) (of_decide_eq_true (by kernel_rfl)) k0 bel lt0) trodAll_mk0), rfl, bel.frame _, fun h => by cases h⟩

theorem over : Rows.fnExactScaledSchemeRow.holds Try.pinned (OpenSpec.ofChange Rows.fnExactScaledSchemeSpec) :=
  OpenClaim.holds_of_wide 9 Try.f9 rfl rfl rfl rfl rfl rfl rfl ⟨rfl, rfl, rfl, rfl, rfl⟩ rfl rfl rfl rfl rfl (by kernel_rfl) Try.func9 (by kernel_rfl)
    (of_decide_eq_true (by kernel_rfl)) (by unfold Func.isWrapper; first | (rw [if_pos (by decide +kernel)]; kernel_rfl) | (rw [if_neg (by decide +kernel)]; exact ⟨rfl, rfl⟩))
    (fun os started H enc _ => lifted os started H enc)
theorem proved : Rows.FnExactScaledSchemeSaid := over
#print axioms proved
end Go.Proofs.Ythbmlioknnhleaa.fnExactScaledScheme
namespace Go.Proofs.Ythbmlioknnhleaa
/-- The row, under a short name, for the claim. -/
theorem fnExactScaledScheme_holds : Rows.FnExactScaledSchemeSaid := fnExactScaledScheme.proved
end Go.Proofs.Ythbmlioknnhleaa
