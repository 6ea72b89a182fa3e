/- FnExactIsScheme holds: for every scheme, the program and the reference tell the same of whether it is one, and leave it as it is; there is no condition. -/
import Derived.Test.YtjdciikfbinchaaRows
import Derived.Test.YtjdciikfbinchaaFb
import Derived.Test.YtjdciikfbinchaaElIsScheme
import Derived.Test.YtjdciikfbinchaaOpen
import Derived.WalkKit
import Derived.ProofKit
import Derived.OpenShut
import Derived.ChangeOld
import Derived.Carry
import Derived.Below
import Derived.SizedLaws
namespace Go.Proofs.Ytjdciikfbinchaa.Fn
open Go Go.Proofs.Ytjdciikfbinchaa.Abs
theorem eq27_refl (x : Nat → Int) : eq27 x x = true := by
  unfold eq27 eq9
  simp [allN_iff]
theorem eqPs_refl (n : Nat) (x : Nat → Nat → Int) : eqPs n x n x = true := by
  unfold eqPs
  simp [allN_iff, eq27_refl]
theorem isScheme_law (p r k c : Int) (n : Nat) (q : Nat → Nat → Int) (hn : n ≤ maxLen) : ∃ new, fnK Try.prog (kc (tabOf [e_l01Is, e_IsScheme, e_toProductS, e_eqProductS])) 40 (rnd [] 40 0) 5 [.agg [I p, I r, I k, I c, .vi .u8 27 n q]] done = some (.bool true, new, true) := by
  have hm : (n : Int) ≤ 9223372036854775807 := by unfold maxLen at hn; omega
  have hW : W (1048576 - (n : Int)) = 1048576 - (n : Int) := W_of (by omega) (by omega)
  refine ⟨[], (slawIsScheme p r k c n q 0).trans ?_⟩
  rw [hW]
  by_cases hc : (1048576 : Int) - n < 0
  · simp [hc]
  · have h1 : n ≤ 1048576 := by omega
    simp [hc, h1, chk, eqPs_refl]
end Go.Proofs.Ytjdciikfbinchaa.Fn

namespace Go.Proofs.Ytjdciikfbinchaa.fnExactIsScheme
open Go Go.Proofs.Ytjdciikfbinchaa Go.ChangeShapes Go.WideShapes Go.ChangeAt Go.RowKit
set_option linter.unusedVariables false
theorem own : ownKnob Try.prog.godebug = none := by kernel_rfl
theorem laidOut : laidOutB Try.prog = true := by kernel_rfl

set_option maxRecDepth 100000 in
theorem lifted (os : Os) (started : os.Started) (H : Type) (enc : TypeId × Value → H) :
    ReturnsInHanded {} Try.checked os 5 .any (Rows.fnExactIsSchemeSpec.pre6 enc Try.prog Try.f5 Rows.fnExactIsSchemeRow.domain false) (Rows.fnExactIsSchemeSpec.post enc Try.prog Try.f5 false true false false) := by
  refine returnsInHanded_of_change_sized (C := Try.checked) own started (by kernel_rfl) Try.func5
    (ChangeSpec.witness6 (enc := enc) (C := Try.checked) false ⟨#[], #[.agg #[.int .i64 0, .int .i64 0, .int .i64 0, .int .i64 0, .slice none 0 0]], []⟩ 8 (by kernel_rfl) (by kernel_rfl) (by kernel_rfl) (by kernel_rfl)) ?_
  intro W base args ds gs before hval0 hW hcnd hsz0 _
  have hval : ∀ (j : Nat) t v, Try.f5.params[j]? = some t → args[j]? = some v → Value.okWide Try.prog W .any base t v := hval0
  have hW' := hW
  obtain ⟨p, q, hA0, hV, rfl, hfz, hnd⟩ := hW
  have hA : DataW.TrodAll enc Try.prog W 0 (fun _ => true) true Try.f5.params.toList args.toList ds p := hA0
  rw [Try.params5] at hA hval
  obtain ⟨v0, vs0, d0, ds0, p0, q0, hargs, rfl, rfl, h0, r0⟩ := trodAll_cons hA
  obtain ⟨rfl, rfl, rfl⟩ := trodAll_nil r0
  obtain rfl : args = #[v0] := by cases args; simp_all
  obtain ⟨rfl, rfl⟩ := trodVars_none hV
  have k0 := h0
  have lt0 : ∀ x ∈ p0, x.block < W.heap.size := by obtain ⟨m, hm⟩ := k0; exact DataW.trod_lt m _ _ _ hm
  obtain ⟨a1, a2, a3, a4, n0, x0, rel0, _, _, _, _, hn0, _⟩ := Abs.open_scheme (t := 35) (ti := 2) (ts := 33) (e := 59) (sz := 27) (by kernel_rfl) (by omega) (hval 0 _ v0 rfl rfl) h0
  obtain ⟨new, hlaw⟩ := Fn.isScheme_law a1 a2 a3 a4 n0 x0 hn0
  refine (Fn.law_of (w := W) (xs := #[v0]) (by simp [Fn.l01Is_ok, Fn.IsScheme_ok, Fn.toProductS_ok, Fn.eqProductS_ok]) rfl hlaw rfl rfl (Fn.argsA (Fn.argsL rel0 Fn.argsN))).mono fun e W' ⟨he, bel⟩ => ?_
  subst he
  exact ⟨_, rfl, _, _, _, [], _, [], hW', trodAll_mk1 (shut_bool Try.underlying4 _), (trodAll_cons_mk (Below.trod laidOut (by kernel_rfl) (of_decide_eq_true (by kernel_rfl)) k0 bel lt0) trodAll_mk0), rfl, bel.frame _, fun h => by cases h⟩

theorem over : Rows.fnExactIsSchemeRow.holds Try.pinned (OpenSpec.ofChange Rows.fnExactIsSchemeSpec) :=
  OpenClaim.holds_of_wide 5 Try.f5 rfl rfl rfl rfl rfl rfl rfl ⟨rfl, rfl, rfl, rfl, rfl⟩ rfl rfl rfl rfl rfl (by kernel_rfl) Try.func5 (by kernel_rfl)
    (of_decide_eq_true (by kernel_rfl)) (by unfold Func.isWrapper; first | (rw [if_pos (by decide +kernel)]; kernel_rfl) | (rw [if_neg (by decide +kernel)]; exact ⟨rfl, rfl⟩))
    (fun os started H enc _ => lifted os started H enc)
theorem proved : Rows.FnExactIsSchemeSaid := over
#print axioms proved
end Go.Proofs.Ytjdciikfbinchaa.fnExactIsScheme
namespace Go.Proofs.Ytjdciikfbinchaa
/-- The row, under a short name, for the claim. -/
theorem fnExactIsScheme_holds : Rows.FnExactIsSchemeSaid := fnExactIsScheme.proved
end Go.Proofs.Ytjdciikfbinchaa
