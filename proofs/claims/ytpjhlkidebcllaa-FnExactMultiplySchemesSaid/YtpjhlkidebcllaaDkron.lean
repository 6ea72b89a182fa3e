/- Kronecker products of forms modulo a prime, and what is told of them. -/
import Derived.Test.YtpjhlkidebcllaaDlin
namespace Go.Proofs.Ytpjhlkidebcllaa.Fn
open Go Go.Proofs.Ytpjhlkidebcllaa.Abs
set_option linter.unusedVariables false
set_option maxRecDepth 100000
def kronQ (p : Int) (rows cols more wide : Nat) (f g : Nat → Int) (t : Nat) : Int := bif decide (t < rows * more * (cols * wide)) then (f (cols * (t / (cols * wide) / more) + t % (cols * wide) / wide) * g (wide * (t / (cols * wide) % more) + t % (cols * wide) % wide)) % p else 0
def kronR (p : Int) (rows cols more wide : Nat) (f g : Nat → Int) (t : Nat) : Int := bif decide (t < rows * more * (cols * wide)) then IntKind.u8.wrap (Int.tmod (W (W (f (cols * (t / (cols * wide) / more) + t % (cols * wide) / wide)) * W (g (wide * (t / (cols * wide) % more) + t % (cols * wide) % wide)))) p) else 0
def kronB (rows cols more wide : Int) : Bool := (decide (1 ≤ rows) && decide (1 ≤ more)) && ((decide (1 ≤ cols) && decide (1 ≤ wide)) && ((decide (rows ≤ 3) && decide (more ≤ 3)) && ((decide (cols ≤ 3) && decide (wide ≤ 3)) && (decide (rows * more ≤ 3) && decide (cols * wide ≤ 3)))))
theorem pair3 {a b : Int} (h1 : 1 ≤ a) (h2 : 1 ≤ b) (h3 : a ≤ 3) (h4 : b ≤ 3) (h5 : a * b ≤ 3) : (a = 1 ∧ b = 1) ∨ (a = 1 ∧ b = 2) ∨ (a = 1 ∧ b = 3) ∨ (a = 2 ∧ b = 1) ∨ (a = 3 ∧ b = 1) := by
  have e1 : a = 1 ∨ a = 2 ∨ a = 3 := by omega
  have e2 : b = 1 ∨ b = 2 ∨ b = 3 := by omega
  rcases e1 with rfl | rfl | rfl <;> rcases e2 with rfl | rfl | rfl <;> simp at h5 ⊢
theorem kronB_cases {rows cols more wide : Int} (h : kronB rows cols more wide = true) : ((rows = 1 ∧ more = 1) ∨ (rows = 1 ∧ more = 2) ∨ (rows = 1 ∧ more = 3) ∨ (rows = 2 ∧ more = 1) ∨ (rows = 3 ∧ more = 1)) ∧ ((cols = 1 ∧ wide = 1) ∨ (cols = 1 ∧ wide = 2) ∨ (cols = 1 ∧ wide = 3) ∨ (cols = 2 ∧ wide = 1) ∨ (cols = 3 ∧ wide = 1)) := by
  unfold kronB at h
  simp only [Bool.and_eq_true, decide_eq_true_eq] at h
  obtain ⟨⟨h1, h2⟩, ⟨h3, h4⟩, ⟨h5, h6⟩, ⟨h7, h8⟩, h9, h10⟩ := h
  exact ⟨pair3 h1 h2 h5 h6 h9, pair3 h3 h4 h7 h8 h10⟩
theorem kron_cell {p x y : Int} (hp : p = 2 ∨ p = 3 ∨ p = 5) (hx : 0 ≤ x ∧ x < p) (hy : 0 ≤ y ∧ y < p) : IntKind.u8.wrap (Int.tmod (W (W x * W y)) p) = x * y % p := by
  have hx' : x = 0 ∨ x = 1 ∨ x = 2 ∨ x = 3 ∨ x = 4 := by omega
  have hb : 0 ≤ x * y ∧ x * y ≤ 16 := by rcases hx' with rfl | rfl | rfl | rfl | rfl <;> omega
  rw [W_of (n := x) (by omega) (by omega), W_of (n := y) (by omega) (by omega), W_of (n := x * y) (by omega) (by omega), Int.tmod_eq_emod_of_nonneg hb.1]
  generalize x * y = z at hb
  exact u8_of (by rcases hp with rfl | rfl | rfl <;> omega)
def e_kronecker : Ent := (63, fun vs => match vs with
  | [.int .i64 p, .agg cs, .int .i64 rows, .int .i64 cols, .agg ds, .int .i64 more, .int .i64 wide] => (u8s 9 cs).bind fun l => (u8s 9 ds).map fun l' =>
    (primeB p && (kronB rows cols more wide && (mod9 p (nthI l) && mod9 p (nthI l'))), .agg (cellsI .u8 9 (kronQ p rows.toNat cols.toNat more.toNat wide.toNat (nthI l) (nthI l'))), [])
  | _ => none)
def e_l02Form : Ent := (60, fun vs => match vs with
  | [.int .i64 p, .agg cs, .agg ds, .int .i64 rows, .int .i64 cols, .int .i64 more, .int .i64 wide] => (u8s 9 cs).bind fun l => (u8s 9 ds).map fun l' =>
    (primeB p && (kronB rows cols more wide && (mod9 p (nthI l) && mod9 p (nthI l'))), .agg (cellsI .u8 9 (kronQ p rows.toNat cols.toNat more.toNat wide.toNat (nthI l) (nthI l'))), [])
  | _ => none)
theorem kron_eq {p : Int} {f g : Nat → Int} {rows cols more wide : Nat} (hp : p = 2 ∨ p = 3 ∨ p = 5) (hf : mod9 p f = true) (hg : mod9 p g = true) (h : ((rows = 1 ∧ more = 1) ∨ (rows = 1 ∧ more = 2) ∨ (rows = 1 ∧ more = 3) ∨ (rows = 2 ∧ more = 1) ∨ (rows = 3 ∧ more = 1)) ∧ ((cols = 1 ∧ wide = 1) ∨ (cols = 1 ∧ wide = 2) ∨ (cols = 1 ∧ wide = 3) ∨ (cols = 2 ∧ wide = 1) ∨ (cols = 3 ∧ wide = 1))) : cellsI .u8 9 (kronQ p rows cols more wide f g) = cellsI .u8 9 (kronR p rows cols more wide f g) := cellsFrom_congr' 9 0 fun j _ hj => by
  unfold kronQ kronR
  by_cases ht : j < rows * more * (cols * wide)
  · simp only [ht, decide_true, cond_true]
    have b1 : cols * (j / (cols * wide) / more) + j % (cols * wide) / wide < 9 := by
      obtain ⟨h1, h2⟩ := h
      rcases h1 with ⟨rfl, rfl⟩ | ⟨rfl, rfl⟩ | ⟨rfl, rfl⟩ | ⟨rfl, rfl⟩ | ⟨rfl, rfl⟩ <;> rcases h2 with ⟨rfl, rfl⟩ | ⟨rfl, rfl⟩ | ⟨rfl, rfl⟩ | ⟨rfl, rfl⟩ | ⟨rfl, rfl⟩ <;> simp at ht ⊢ <;> omega
    have b2 : wide * (j / (cols * wide) % more) + j % (cols * wide) % wide < 9 := by
      obtain ⟨h1, h2⟩ := h
      rcases h1 with ⟨rfl, rfl⟩ | ⟨rfl, rfl⟩ | ⟨rfl, rfl⟩ | ⟨rfl, rfl⟩ | ⟨rfl, rfl⟩ <;> rcases h2 with ⟨rfl, rfl⟩ | ⟨rfl, rfl⟩ | ⟨rfl, rfl⟩ | ⟨rfl, rfl⟩ | ⟨rfl, rfl⟩ <;> simp at ht ⊢ <;> omega
    exact (kron_cell hp (mod9_iff.1 hf _ b1) (mod9_iff.1 hg _ b2)).symm
  · simp only [ht, decide_false, cond_false]
theorem kron_11 (p cols wide : Int) (f g : Nat → Int) (hp : p = 2 ∨ p = 3 ∨ p = 5) (h : (cols = 1 ∧ wide = 1) ∨ (cols = 1 ∧ wide = 2) ∨ (cols = 1 ∧ wide = 3) ∨ (cols = 2 ∧ wide = 1) ∨ (cols = 3 ∧ wide = 1)) : fnK Try.prog (kc (tabOf [])) 40 (rnd [] 40 10) 63 [I p, .agg (cellsI .u8 9 f), I 1, I cols, .agg (cellsI .u8 9 g), I 1, I wide] done = some (.agg (cellsI .u8 9 (kronR p 1 cols.toNat 1 wide.toNat f g)), [], true) := by
  rcases h with ⟨rfl, rfl⟩ | ⟨rfl, rfl⟩ | ⟨rfl, rfl⟩ | ⟨rfl, rfl⟩ | ⟨rfl, rfl⟩ <;> rcases hp with rfl | rfl | rfl <;> kernel_rfl
theorem kron_12 (p cols wide : Int) (f g : Nat → Int) (hp : p = 2 ∨ p = 3 ∨ p = 5) (h : (cols = 1 ∧ wide = 1) ∨ (cols = 1 ∧ wide = 2) ∨ (cols = 1 ∧ wide = 3) ∨ (cols = 2 ∧ wide = 1) ∨ (cols = 3 ∧ wide = 1)) : fnK Try.prog (kc (tabOf [])) 40 (rnd [] 40 10) 63 [I p, .agg (cellsI .u8 9 f), I 1, I cols, .agg (cellsI .u8 9 g), I 2, I wide] done = some (.agg (cellsI .u8 9 (kronR p 1 cols.toNat 2 wide.toNat f g)), [], true) := by
  rcases h with ⟨rfl, rfl⟩ | ⟨rfl, rfl⟩ | ⟨rfl, rfl⟩ | ⟨rfl, rfl⟩ | ⟨rfl, rfl⟩ <;> rcases hp with rfl | rfl | rfl <;> kernel_rfl
theorem kron_13 (p cols wide : Int) (f g : Nat → Int) (hp : p = 2 ∨ p = 3 ∨ p = 5) (h : (cols = 1 ∧ wide = 1) ∨ (cols = 1 ∧ wide = 2) ∨ (cols = 1 ∧ wide = 3) ∨ (cols = 2 ∧ wide = 1) ∨ (cols = 3 ∧ wide = 1)) : fnK Try.prog (kc (tabOf [])) 40 (rnd [] 40 10) 63 [I p, .agg (cellsI .u8 9 f), I 1, I cols, .agg (cellsI .u8 9 g), I 3, I wide] done = some (.agg (cellsI .u8 9 (kronR p 1 cols.toNat 3 wide.toNat f g)), [], true) := by
  rcases h with ⟨rfl, rfl⟩ | ⟨rfl, rfl⟩ | ⟨rfl, rfl⟩ | ⟨rfl, rfl⟩ | ⟨rfl, rfl⟩ <;> rcases hp with rfl | rfl | rfl <;> kernel_rfl
theorem kron_21 (p cols wide : Int) (f g : Nat → Int) (hp : p = 2 ∨ p = 3 ∨ p = 5) (h : (cols = 1 ∧ wide = 1) ∨ (cols = 1 ∧ wide = 2) ∨ (cols = 1 ∧ wide = 3) ∨ (cols = 2 ∧ wide = 1) ∨ (cols = 3 ∧ wide = 1)) : fnK Try.prog (kc (tabOf [])) 40 (rnd [] 40 10) 63 [I p, .agg (cellsI .u8 9 f), I 2, I cols, .agg (cellsI .u8 9 g), I 1, I wide] done = some (.agg (cellsI .u8 9 (kronR p 2 cols.toNat 1 wide.toNat f g)), [], true) := by
  rcases h with ⟨rfl, rfl⟩ | ⟨rfl, rfl⟩ | ⟨rfl, rfl⟩ | ⟨rfl, rfl⟩ | ⟨rfl, rfl⟩ <;> rcases hp with rfl | rfl | rfl <;> kernel_rfl
theorem kron_31 (p cols wide : Int) (f g : Nat → Int) (hp : p = 2 ∨ p = 3 ∨ p = 5) (h : (cols = 1 ∧ wide = 1) ∨ (cols = 1 ∧ wide = 2) ∨ (cols = 1 ∧ wide = 3) ∨ (cols = 2 ∧ wide = 1) ∨ (cols = 3 ∧ wide = 1)) : fnK Try.prog (kc (tabOf [])) 40 (rnd [] 40 10) 63 [I p, .agg (cellsI .u8 9 f), I 3, I cols, .agg (cellsI .u8 9 g), I 1, I wide] done = some (.agg (cellsI .u8 9 (kronR p 3 cols.toNat 1 wide.toNat f g)), [], true) := by
  rcases h with ⟨rfl, rfl⟩ | ⟨rfl, rfl⟩ | ⟨rfl, rfl⟩ | ⟨rfl, rfl⟩ | ⟨rfl, rfl⟩ <;> rcases hp with rfl | rfl | rfl <;> kernel_rfl
theorem kronecker_ok : EntOk e_kronecker := by
  intro vs v new hv
  unfold e_kronecker at hv
  simp only at hv
  split at hv
  · simp only [Option.bind_eq_some_iff, Option.map_eq_some_iff, Prod.mk.injEq, Bool.and_eq_true] at hv
    obtain ⟨l, hl, l', hl', ⟨h1, h2, h3, h4⟩, rfl, rfl⟩ := hv
    rw [u8s_eq hl, u8s_eq hl']
    have hp := prime3 h1
    obtain ⟨h5, h6⟩ := kronB_cases h2
    have h6' := h6
    rcases h5 with ⟨rfl, rfl⟩ | ⟨rfl, rfl⟩ | ⟨rfl, rfl⟩ | ⟨rfl, rfl⟩ | ⟨rfl, rfl⟩
    · rw [kron_eq (rows := Int.toNat 1) (more := Int.toNat 1) hp h3 h4 ⟨by simp, by omega⟩]
      exact ent_run none_ok rfl same_weak rfl rfl (kron_11 _ _ _ _ _ hp h6) (cleanL_cells _ _ _ _) cleanB_nil
    · rw [kron_eq (rows := Int.toNat 1) (more := Int.toNat 2) hp h3 h4 ⟨by simp, by omega⟩]
      exact ent_run none_ok rfl same_weak rfl rfl (kron_12 _ _ _ _ _ hp h6) (cleanL_cells _ _ _ _) cleanB_nil
    · rw [kron_eq (rows := Int.toNat 1) (more := Int.toNat 3) hp h3 h4 ⟨by simp, by omega⟩]
      exact ent_run none_ok rfl same_weak rfl rfl (kron_13 _ _ _ _ _ hp h6) (cleanL_cells _ _ _ _) cleanB_nil
    · rw [kron_eq (rows := Int.toNat 2) (more := Int.toNat 1) hp h3 h4 ⟨by simp, by omega⟩]
      exact ent_run none_ok rfl same_weak rfl rfl (kron_21 _ _ _ _ _ hp h6) (cleanL_cells _ _ _ _) cleanB_nil
    · rw [kron_eq (rows := Int.toNat 3) (more := Int.toNat 1) hp h3 h4 ⟨by simp, by omega⟩]
      exact ent_run none_ok rfl same_weak rfl rfl (kron_31 _ _ _ _ _ hp h6) (cleanL_cells _ _ _ _) cleanB_nil
  · cases hv
theorem form2_11 (p cols wide : Int) (f g : Nat → Int) (hp : p = 2 ∨ p = 3 ∨ p = 5) (h : (cols = 1 ∧ wide = 1) ∨ (cols = 1 ∧ wide = 2) ∨ (cols = 1 ∧ wide = 3) ∨ (cols = 2 ∧ wide = 1) ∨ (cols = 3 ∧ wide = 1)) : fnK Try.prog (kc (tabOf [])) 40 (rnd [] 40 10) 60 [I p, .agg (cellsI .u8 9 f), .agg (cellsI .u8 9 g), I 1, I cols, I 1, I wide] done = some (.agg (cellsI .u8 9 (kronR p 1 cols.toNat 1 wide.toNat f g)), [], true) := by
  rcases h with ⟨rfl, rfl⟩ | ⟨rfl, rfl⟩ | ⟨rfl, rfl⟩ | ⟨rfl, rfl⟩ | ⟨rfl, rfl⟩ <;> rcases hp with rfl | rfl | rfl <;> kernel_rfl
theorem form2_12 (p cols wide : Int) (f g : Nat → Int) (hp : p = 2 ∨ p = 3 ∨ p = 5) (h : (cols = 1 ∧ wide = 1) ∨ (cols = 1 ∧ wide = 2) ∨ (cols = 1 ∧ wide = 3) ∨ (cols = 2 ∧ wide = 1) ∨ (cols = 3 ∧ wide = 1)) : fnK Try.prog (kc (tabOf [])) 40 (rnd [] 40 10) 60 [I p, .agg (cellsI .u8 9 f), .agg (cellsI .u8 9 g), I 1, I cols, I 2, I wide] done = some (.agg (cellsI .u8 9 (kronR p 1 cols.toNat 2 wide.toNat f g)), [], true) := by
  rcases h with ⟨rfl, rfl⟩ | ⟨rfl, rfl⟩ | ⟨rfl, rfl⟩ | ⟨rfl, rfl⟩ | ⟨rfl, rfl⟩ <;> rcases hp with rfl | rfl | rfl <;> kernel_rfl
theorem form2_13 (p cols wide : Int) (f g : Nat → Int) (hp : p = 2 ∨ p = 3 ∨ p = 5) (h : (cols = 1 ∧ wide = 1) ∨ (cols = 1 ∧ wide = 2) ∨ (cols = 1 ∧ wide = 3) ∨ (cols = 2 ∧ wide = 1) ∨ (cols = 3 ∧ wide = 1)) : fnK Try.prog (kc (tabOf [])) 40 (rnd [] 40 10) 60 [I p, .agg (cellsI .u8 9 f), .agg (cellsI .u8 9 g), I 1, I cols, I 3, I wide] done = some (.agg (cellsI .u8 9 (kronR p 1 cols.toNat 3 wide.toNat f g)), [], true) := by
  rcases h with ⟨rfl, rfl⟩ | ⟨rfl, rfl⟩ | ⟨rfl, rfl⟩ | ⟨rfl, rfl⟩ | ⟨rfl, rfl⟩ <;> rcases hp with rfl | rfl | rfl <;> kernel_rfl
theorem form2_21 (p cols wide : Int) (f g : Nat → Int) (hp : p = 2 ∨ p = 3 ∨ p = 5) (h : (cols = 1 ∧ wide = 1) ∨ (cols = 1 ∧ wide = 2) ∨ (cols = 1 ∧ wide = 3) ∨ (cols = 2 ∧ wide = 1) ∨ (cols = 3 ∧ wide = 1)) : fnK Try.prog (kc (tabOf [])) 40 (rnd [] 40 10) 60 [I p, .agg (cellsI .u8 9 f), .agg (cellsI .u8 9 g), I 2, I cols, I 1, I wide] done = some (.agg (cellsI .u8 9 (kronR p 2 cols.toNat 1 wide.toNat f g)), [], true) := by
  rcases h with ⟨rfl, rfl⟩ | ⟨rfl, rfl⟩ | ⟨rfl, rfl⟩ | ⟨rfl, rfl⟩ | ⟨rfl, rfl⟩ <;> rcases hp with rfl | rfl | rfl <;> kernel_rfl
theorem form2_31 (p cols wide : Int) (f g : Nat → Int) (hp : p = 2 ∨ p = 3 ∨ p = 5) (h : (cols = 1 ∧ wide = 1) ∨ (cols = 1 ∧ wide = 2) ∨ (cols = 1 ∧ wide = 3) ∨ (cols = 2 ∧ wide = 1) ∨ (cols = 3 ∧ wide = 1)) : fnK Try.prog (kc (tabOf [])) 40 (rnd [] 40 10) 60 [I p, .agg (cellsI .u8 9 f), .agg (cellsI .u8 9 g), I 3, I cols, I 1, I wide] done = some (.agg (cellsI .u8 9 (kronR p 3 cols.toNat 1 wide.toNat f g)), [], true) := by
  rcases h with ⟨rfl, rfl⟩ | ⟨rfl, rfl⟩ | ⟨rfl, rfl⟩ | ⟨rfl, rfl⟩ | ⟨rfl, rfl⟩ <;> rcases hp with rfl | rfl | rfl <;> kernel_rfl
theorem l02Form_ok : EntOk e_l02Form := by
  intro vs v new hv
  unfold e_l02Form at hv
  simp only at hv
  split at hv
  · simp only [Option.bind_eq_some_iff, Option.map_eq_some_iff, Prod.mk.injEq, Bool.and_eq_true] at hv
    obtain ⟨l, hl, l', hl', ⟨h1, h2, h3, h4⟩, rfl, rfl⟩ := hv
    rw [u8s_eq hl, u8s_eq hl']
    have hp := prime3 h1
    obtain ⟨h5, h6⟩ := kronB_cases h2
    have h6' := h6
    rcases h5 with ⟨rfl, rfl⟩ | ⟨rfl, rfl⟩ | ⟨rfl, rfl⟩ | ⟨rfl, rfl⟩ | ⟨rfl, rfl⟩
    · rw [kron_eq (rows := Int.toNat 1) (more := Int.toNat 1) hp h3 h4 ⟨by simp, by omega⟩]
      exact ent_run none_ok rfl same_weak rfl rfl (form2_11 _ _ _ _ _ hp h6) (cleanL_cells _ _ _ _) cleanB_nil
    · rw [kron_eq (rows := Int.toNat 1) (more := Int.toNat 2) hp h3 h4 ⟨by simp, by omega⟩]
      exact ent_run none_ok rfl same_weak rfl rfl (form2_12 _ _ _ _ _ hp h6) (cleanL_cells _ _ _ _) cleanB_nil
    · rw [kron_eq (rows := Int.toNat 1) (more := Int.toNat 3) hp h3 h4 ⟨by simp, by omega⟩]
      exact ent_run none_ok rfl same_weak rfl rfl (form2_13 _ _ _ _ _ hp h6) (cleanL_cells _ _ _ _) cleanB_nil
    · rw [kron_eq (rows := Int.toNat 2) (more := Int.toNat 1) hp h3 h4 ⟨by simp, by omega⟩]
      exact ent_run none_ok rfl same_weak rfl rfl (form2_21 _ _ _ _ _ hp h6) (cleanL_cells _ _ _ _) cleanB_nil
    · rw [kron_eq (rows := Int.toNat 3) (more := Int.toNat 1) hp h3 h4 ⟨by simp, by omega⟩]
      exact ent_run none_ok rfl same_weak rfl rfl (form2_31 _ _ _ _ _ hp h6) (cleanL_cells _ _ _ _) cleanB_nil
  · cases hv
end Go.Proofs.Ytpjhlkidebcllaa.Fn
