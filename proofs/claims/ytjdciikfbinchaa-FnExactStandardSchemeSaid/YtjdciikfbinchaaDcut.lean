/- The first rows and columns of a form, and what is told of them. -/
import Derived.Test.YtjdciikfbinchaaFa
namespace Go.Proofs.Ytjdciikfbinchaa.Fn
open Go Go.Proofs.Ytjdciikfbinchaa.Abs
set_option linter.unusedVariables false
set_option maxRecDepth 100000

def cutQ (cols rows wide : Nat) (f : Nat → Int) (i : Nat) : Int := bif decide (i < rows * wide) then f (i / wide * cols + i % wide) else 0
def g_cut : G := fun vs => match vs with
  | [.agg cs, .int .i64 cols, .int .i64 rows, .int .i64 wide] => (u8s 9 cs).map fun l =>
    (decide (1 ≤ rows ∧ rows ≤ 3) && (decide (1 ≤ wide ∧ wide ≤ cols) && decide (cols ≤ 3)), .agg (cellsI .u8 9 (cutQ cols.toNat rows.toNat wide.toNat (nthI l))), [])
  | _ => none
def e_cut : Ent := (92, g_cut)
def e_l02Cut : Ent := (90, g_cut)
theorem of3 {a : Int} (h1 : 1 ≤ a) (h2 : a ≤ 3) : a = 1 ∨ a = 2 ∨ a = 3 := by omega
theorem cut_ok' {f : Nat} (h : ∀ (q : Nat → Int) (cols rows wide : Int), (1 ≤ rows ∧ rows ≤ 3) → (1 ≤ wide ∧ wide ≤ cols) → cols ≤ 3 → fnK Try.prog (kc (tabOf [])) 40 (rnd [] 40 10) f [.agg (cellsI .u8 9 q), I cols, I rows, I wide] done = some (.agg (cellsI .u8 9 (cutQ cols.toNat rows.toNat wide.toNat q)), [], true)) : EntOk (f, g_cut) := by
  intro vs v new hv
  unfold g_cut at hv
  simp only at hv
  split at hv
  · simp only [Option.map_eq_some_iff, Prod.mk.injEq, Bool.and_eq_true, decide_eq_true_eq] at hv
    obtain ⟨l, hl, ⟨h1, h2, h3⟩, rfl, rfl⟩ := hv
    rw [u8s_eq hl]
    exact ent_run none_ok rfl same_weak rfl rfl (h _ _ _ _ h1 h2 h3) (cleanL_cells _ _ _ _) cleanB_nil
  · cases hv
theorem cut_ok : EntOk e_cut := cut_ok' fun q cols rows wide h1 h2 h3 => by
  rcases of3 h1.1 h1.2 with rfl | rfl | rfl <;> rcases of3 (a := cols) (by omega) (by omega) with rfl | rfl | rfl <;> rcases of3 (a := wide) (by omega) (by omega) with rfl | rfl | rfl <;> first | omega | kernel_rfl
theorem l02Cut_ok : EntOk e_l02Cut := cut_ok' fun q cols rows wide h1 h2 h3 => by
  rcases of3 h1.1 h1.2 with rfl | rfl | rfl <;> rcases of3 (a := cols) (by omega) (by omega) with rfl | rfl | rfl <;> rcases of3 (a := wide) (by omega) (by omega) with rfl | rfl | rfl <;> first | omega | kernel_rfl
end Go.Proofs.Ytjdciikfbinchaa.Fn
