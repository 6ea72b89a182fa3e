/- FnExactAreEqualSchemes holds: for every two schemes, the program and the reference return the same answer and code; there is no condition. -/
import Derived.Test.YthbmlioknnhleaaRows
import Derived.Test.YthbmlioknnhleaaFae
import Derived.Test.YthbmlioknnhleaaOpen
import Derived.WalkKit
import Derived.ProofKit
import Derived.OpenShut
import Derived.ChangeOld
import Derived.Carry
import Derived.Below
import Derived.SizedLaws
namespace Go.Proofs.Ythbmlioknnhleaa.fnExactAreEqualSchemes
open Go Go.Proofs.Ythbmlioknnhleaa Go.ChangeShapes Go.WideShapes Go.ChangeAt Go.RowKit
set_option linter.unusedVariables false
theorem own : ownKnob Try.prog.godebug = none := by kernel_rfl
theorem laidOut : laidOutB Try.prog = true := by kernel_rfl

set_option maxRecDepth 100000 in
theorem lifted (os : Os) (started : os.Started) (H : Type) (enc : TypeId × Value → H) :
    ReturnsInHanded {} Try.checked os 8 .any (Rows.fnExactAreEqualSchemesSpec.pre6 enc Try.prog Try.f8 Rows.fnExactAreEqualSchemesRow.domain false) (Rows.fnExactAreEqualSchemesSpec.post enc Try.prog Try.f8 false true false false) := by
  refine returnsInHanded_of_change_sized (C := Try.checked) own started (by kernel_rfl) Try.func8
    (ChangeSpec.witness6 (enc := enc) (C := Try.checked) false ⟨#[], #[.agg #[.int .i64 0, .int .i64 0, .int .i64 0, .int .i64 0, .slice none 0 0], .agg #[.int .i64 0, .int .i64 0, .int .i64 0, .int .i64 0, .slice none 0 0]], []⟩ 8 (by kernel_rfl) (by kernel_rfl) (by kernel_rfl) (by kernel_rfl)) ?_
  intro W base args ds gs before hval0 hW hcnd hsz0 _
  have hval : ∀ (j : Nat) t v, Try.f8.params[j]? = some t → args[j]? = some v → Value.okWide Try.prog W .any base t v := hval0
  have hW' := hW
  obtain ⟨p, q, hA0, hV, rfl, hfz, hnd⟩ := hW
  have hA : DataW.TrodAll enc Try.prog W 0 (fun _ => true) true Try.f8.params.toList args.toList ds p := hA0
  rw [Try.params8] at hA hval
  obtain ⟨v0, vs0, d0, ds0, p0, q0, hargs, rfl, rfl, h0, r0⟩ := trodAll_cons hA
  obtain ⟨v1, vs1, d1, ds1, p1, q1, rfl, rfl, rfl, h1, r1⟩ := trodAll_cons r0
  obtain ⟨rfl, rfl, rfl⟩ := trodAll_nil r1
  obtain rfl : args = #[v0, v1] := by cases args; simp_all
  obtain ⟨rfl, rfl⟩ := trodVars_none hV
  have k0 := h0
  have lt0 : ∀ x ∈ p0, x.block < W.heap.size := by obtain ⟨m, hm⟩ := k0; exact DataW.trod_lt m _ _ _ hm
  obtain ⟨a0, b0, c0, e0, n0, x0, rel0, s10, s20, s30, s40, hn0, hq0⟩ := Abs.open_scheme (t := 33) (ti := 2) (ts := 31) (e := 97) (sz := 27) (by kernel_rfl) (by omega) (hval 0 _ v0 rfl rfl) h0
  have k1 := h1
  have lt1 : ∀ x ∈ p1, x.block < W.heap.size := by obtain ⟨m, hm⟩ := k1; exact DataW.trod_lt m _ _ _ hm
  obtain ⟨a1, b1, c1, e1, n1, x1, rel1, s11, s21, s31, s41, hn1, hq1⟩ := Abs.open_scheme (t := 33) (ti := 2) (ts := 31) (e := 97) (sz := 27) (by kernel_rfl) (by omega) (hval 1 _ v1 rfl rfl) h1
  refine ((Fn.exactAreEqualSchemes_law a0 b0 c0 e0 n0 x0 hn0 hq0 a1 b1 c1 e1 n1 x1 hn1 hq1).calls (xs := #[v0, v1]) rfl rfl (Fn.argsA (Fn.argsL rel0 (Fn.argsL rel1 Fn.argsN)))).mono fun e W' ⟨he, bel⟩ => ?_
  subst he
  exact ⟨_, rfl, _, _, _, [], _, [], hW', trodAll_mk1 (shut_bool Try.underlying4 _), (trodAll_cons_mk (Below.trod laidOut (by kernel_rfl) (of_decide_eq_true (by kernel_rfl)) k0 bel lt0) (trodAll_cons_mk (Below.trod laidOut (by kernel_rfl) (of_decide_eq_true (by kernel_rfl)) k1 bel lt1) trodAll_mk0)), rfl, bel.frame _, fun h => by cases h⟩

theorem over : Rows.fnExactAreEqualSchemesRow.holds Try.pinned (OpenSpec.ofChange Rows.fnExactAreEqualSchemesSpec) :=
  OpenClaim.holds_of_wide 8 Try.f8 rfl rfl rfl rfl rfl rfl rfl ⟨rfl, rfl, rfl, rfl, rfl⟩ rfl rfl rfl rfl rfl (by kernel_rfl) Try.func8 (by kernel_rfl)
    (of_decide_eq_true (by kernel_rfl)) (by unfold Func.isWrapper; first | (rw [if_pos (by decide +kernel)]; kernel_rfl) | (rw [if_neg (by decide +kernel)]; exact ⟨rfl, rfl⟩))
    (fun os started H enc _ => lifted os started H enc)
theorem proved : Rows.FnExactAreEqualSchemesSaid := over
#print axioms proved
end Go.Proofs.Ythbmlioknnhleaa.fnExactAreEqualSchemes
namespace Go.Proofs.Ythbmlioknnhleaa
/-- The row, under a short name, for the claim. -/
theorem fnExactAreEqualSchemes_holds : Rows.FnExactAreEqualSchemesSaid := fnExactAreEqualSchemes.proved
end Go.Proofs.Ythbmlioknnhleaa
