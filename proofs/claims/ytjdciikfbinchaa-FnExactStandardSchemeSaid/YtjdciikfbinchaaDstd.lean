/- Standard schemes: what is told of them, and that it is so. -/
import Derived.Test.YtjdciikfbinchaaDcut
import Derived.Test.YtjdciikfbinchaaDk
namespace Go.Proofs.Ytjdciikfbinchaa.Fn
open Go Go.Proofs.Ytjdciikfbinchaa.Abs
set_option linter.unusedVariables false
set_option maxRecDepth 100000
/-- cell c of product t of the standard scheme -/
def stdQ (n m k : Nat) (t c : Nat) : Int := bif decide (c = t / (m * k) * m + t / k % m) || (decide (c = 9 + (t / k % m * k + t % k)) || decide (c = 18 + (t / (m * k) * k + t % k))) then 1 else 0
def g_standard : G := fun vs => match vs with
  | [.int .i64 p, .int .i64 n, .int .i64 m, .int .i64 k] => some (sizeB n && (sizeB m && sizeB k), .agg [.int .i64 p, .int .i64 n, .int .i64 m, .int .i64 k, .sl 0 0 (n.toNat * m.toNat * k.toNat) (n.toNat * m.toNat * k.toNat)], [⟨tProduct, 27, .ints .u8 27 (n.toNat * m.toNat * k.toNat) (stdQ n.toNat m.toNat k.toNat)⟩])
  | _ => none
def e_standard : Ent := (59, g_standard)
def e_l01Standard : Ent := (57, g_standard)
/-- the rows of the standard scheme, one by one -/
def stdRows (n m k : Nat) : List (List AV) := (List.range (n * m * k)).map fun t => cellsI .u8 27 (stdQ n m k t)
theorem standard_ok' {f : Nat} (h : ∀ (p n m k : Int), (1 ≤ n ∧ n ≤ 3) → (1 ≤ m ∧ m ≤ 3) → (1 ≤ k ∧ k ≤ 3) →
      fnK Try.prog (kc (tabOf [])) 40 (rnd [] 40 10) f [I p, I n, I m, I k] done = some (.agg [I p, I n, I m, I k, .sl 0 0 (n.toNat * m.toNat * k.toNat) (n.toNat * m.toNat * k.toNat)], [⟨tProduct, 27, .lst (stdRows n.toNat m.toNat k.toNat)⟩], true)) (hf : tabOf [] [] f = none) : EntOk (f, g_standard) := by
  intro vs v new hv
  unfold g_standard at hv
  simp only at hv
  split at hv
  · rename_i p n m k
    simp only [Option.some.injEq, Prod.mk.injEq, Bool.and_eq_true, sizeB, decide_eq_true_eq] at hv
    obtain ⟨⟨h1, h2, h3⟩, rfl, rfl⟩ := hv
    have hr := h p n m k h1 h2 h3
    exact ⟨[I p, I n, I m, I k], _, _, rfl, same_weak, rfl, fnK_sem mixed plain (tabOf_ok none_ok) (KMTOk.none _) hf rfl hr, .inl ⟨rfl, rfl, rfl, cleanB_ints _ _ _ _ _ (stdQ n.toNat m.toNat k.toNat)⟩⟩
  · cases hv
def codeStandardScheme (p n m k : Int) : Int := bif sizesB p n m k then 0 else 2
def resStandardScheme (p n m k : Int) : Sch := ⟨p, n, m, k, n.toNat * m.toNat * k.toNat, stdQ n.toNat m.toNat k.toNat⟩
def g_std : List AV → Option Ans := fun vs => match vs with
  | [.int .i64 p, .int .i64 n, .int .i64 m, .int .i64 k] => some (sAns false true (codeStandardScheme p n m k) (resStandardScheme p n m k))
  | _ => none
def ce_specStandardScheme : CEnt := (17, g_std)
def ce_implStandardScheme : CEnt := (18, g_std)
end Go.Proofs.Ytjdciikfbinchaa.Fn
