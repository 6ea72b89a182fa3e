/- Forms of a matrix put into a greater one, and what is told of them. -/
import Derived.Test.YtpjhlkidebcllaaFa
import Derived.Test.YtpjhlkidebcllaaDk
import Derived.Test.YtpjhlkidebcllaaDg
namespace Go.Proofs.Ytpjhlkidebcllaa.Fn
open Go Go.Proofs.Ytpjhlkidebcllaa.Abs
set_option linter.unusedVariables false
set_option maxRecDepth 100000
/-- a form of so many rows and columns, moved down and right in one that is wider -/
def movQ (rows cols wide down right : Nat) (f : Nat → Int) (i : Nat) : Int := bif (decide (down ≤ i / wide) && decide (i / wide < down + rows)) && (decide (right ≤ i % wide) && decide (i % wide < right + cols)) then f ((i / wide - down) * cols + (i % wide - right)) else 0
def movB (rows cols wide down right : Int) : Bool := (decide (1 ≤ rows) && (decide (0 ≤ down) && decide (rows + down ≤ 3))) && (decide (1 ≤ cols) && (decide (0 ≤ right) && (decide (cols + right ≤ wide) && decide (wide ≤ 3))))
def e_put : Ent := (120, fun vs => match vs with
  | [.agg [.int .i64 rows, .int .i64 cols, .int .i64 wide, .int .i64 down, .int .i64 right], .agg cs] => (u8s 9 cs).map fun l =>
    (movB rows cols wide down right, .agg (cellsI .u8 9 (movQ rows.toNat cols.toNat wide.toNat down.toNat right.toNat (nthI l))), [])
  | _ => none)
def e_l02Moved : Ent := (124, fun vs => match vs with
  | [.agg cs, .int .i64 rows, .int .i64 cols, .int .i64 wide, .int .i64 down, .int .i64 right] => (u8s 9 cs).map fun l =>
    (movB rows cols wide down right, .agg (cellsI .u8 9 (movQ rows.toNat cols.toNat wide.toNat down.toNat right.toNat (nthI l))), [])
  | _ => none)
theorem movB_cases {rows cols wide down right : Int} (h : movB rows cols wide down right = true) : ((rows = 1 ∧ down = 0) ∨ (rows = 1 ∧ down = 1) ∨ (rows = 1 ∧ down = 2) ∨ (rows = 2 ∧ down = 0) ∨ (rows = 2 ∧ down = 1) ∨ (rows = 3 ∧ down = 0)) ∧
    ((cols = 1 ∧ right = 0 ∧ wide = 1) ∨ (cols = 1 ∧ right = 0 ∧ wide = 2) ∨ (cols = 1 ∧ right = 1 ∧ wide = 2) ∨ (cols = 2 ∧ right = 0 ∧ wide = 2) ∨ (cols = 1 ∧ right = 0 ∧ wide = 3) ∨ (cols = 1 ∧ right = 1 ∧ wide = 3) ∨ (cols = 1 ∧ right = 2 ∧ wide = 3) ∨ (cols = 2 ∧ right = 0 ∧ wide = 3) ∨ (cols = 2 ∧ right = 1 ∧ wide = 3) ∨ (cols = 3 ∧ right = 0 ∧ wide = 3)) := by
  unfold movB at h
  simp only [Bool.and_eq_true, decide_eq_true_eq] at h
  omega
theorem put_10 (q : Nat → Int) (cols wide right : Int) (h : (cols = 1 ∧ right = 0 ∧ wide = 1) ∨ (cols = 1 ∧ right = 0 ∧ wide = 2) ∨ (cols = 1 ∧ right = 1 ∧ wide = 2) ∨ (cols = 2 ∧ right = 0 ∧ wide = 2) ∨ (cols = 1 ∧ right = 0 ∧ wide = 3) ∨ (cols = 1 ∧ right = 1 ∧ wide = 3) ∨ (cols = 1 ∧ right = 2 ∧ wide = 3) ∨ (cols = 2 ∧ right = 0 ∧ wide = 3) ∨ (cols = 2 ∧ right = 1 ∧ wide = 3) ∨ (cols = 3 ∧ right = 0 ∧ wide = 3)) :
    fnK Try.prog (kc (tabOf [])) 40 (rnd [] 40 10) 120 [.agg [I 1, I cols, I wide, I 0, I right], .agg (cellsI .u8 9 q)] done = some (.agg (cellsI .u8 9 (movQ 1 cols.toNat wide.toNat 0 right.toNat q)), [], true) := by
  rcases h with ⟨rfl, rfl, rfl⟩ | ⟨rfl, rfl, rfl⟩ | ⟨rfl, rfl, rfl⟩ | ⟨rfl, rfl, rfl⟩ | ⟨rfl, rfl, rfl⟩ | ⟨rfl, rfl, rfl⟩ | ⟨rfl, rfl, rfl⟩ | ⟨rfl, rfl, rfl⟩ | ⟨rfl, rfl, rfl⟩ | ⟨rfl, rfl, rfl⟩ <;> kernel_rfl
theorem put_11 (q : Nat → Int) (cols wide right : Int) (h : (cols = 1 ∧ right = 0 ∧ wide = 1) ∨ (cols = 1 ∧ right = 0 ∧ wide = 2) ∨ (cols = 1 ∧ right = 1 ∧ wide = 2) ∨ (cols = 2 ∧ right = 0 ∧ wide = 2) ∨ (cols = 1 ∧ right = 0 ∧ wide = 3) ∨ (cols = 1 ∧ right = 1 ∧ wide = 3) ∨ (cols = 1 ∧ right = 2 ∧ wide = 3) ∨ (cols = 2 ∧ right = 0 ∧ wide = 3) ∨ (cols = 2 ∧ right = 1 ∧ wide = 3) ∨ (cols = 3 ∧ right = 0 ∧ wide = 3)) :
    fnK Try.prog (kc (tabOf [])) 40 (rnd [] 40 10) 120 [.agg [I 1, I cols, I wide, I 1, I right], .agg (cellsI .u8 9 q)] done = some (.agg (cellsI .u8 9 (movQ 1 cols.toNat wide.toNat 1 right.toNat q)), [], true) := by
  rcases h with ⟨rfl, rfl, rfl⟩ | ⟨rfl, rfl, rfl⟩ | ⟨rfl, rfl, rfl⟩ | ⟨rfl, rfl, rfl⟩ | ⟨rfl, rfl, rfl⟩ | ⟨rfl, rfl, rfl⟩ | ⟨rfl, rfl, rfl⟩ | ⟨rfl, rfl, rfl⟩ | ⟨rfl, rfl, rfl⟩ | ⟨rfl, rfl, rfl⟩ <;> kernel_rfl
theorem put_12 (q : Nat → Int) (cols wide right : Int) (h : (cols = 1 ∧ right = 0 ∧ wide = 1) ∨ (cols = 1 ∧ right = 0 ∧ wide = 2) ∨ (cols = 1 ∧ right = 1 ∧ wide = 2) ∨ (cols = 2 ∧ right = 0 ∧ wide = 2) ∨ (cols = 1 ∧ right = 0 ∧ wide = 3) ∨ (cols = 1 ∧ right = 1 ∧ wide = 3) ∨ (cols = 1 ∧ right = 2 ∧ wide = 3) ∨ (cols = 2 ∧ right = 0 ∧ wide = 3) ∨ (cols = 2 ∧ right = 1 ∧ wide = 3) ∨ (cols = 3 ∧ right = 0 ∧ wide = 3)) :
    fnK Try.prog (kc (tabOf [])) 40 (rnd [] 40 10) 120 [.agg [I 1, I cols, I wide, I 2, I right], .agg (cellsI .u8 9 q)] done = some (.agg (cellsI .u8 9 (movQ 1 cols.toNat wide.toNat 2 right.toNat q)), [], true) := by
  rcases h with ⟨rfl, rfl, rfl⟩ | ⟨rfl, rfl, rfl⟩ | ⟨rfl, rfl, rfl⟩ | ⟨rfl, rfl, rfl⟩ | ⟨rfl, rfl, rfl⟩ | ⟨rfl, rfl, rfl⟩ | ⟨rfl, rfl, rfl⟩ | ⟨rfl, rfl, rfl⟩ | ⟨rfl, rfl, rfl⟩ | ⟨rfl, rfl, rfl⟩ <;> kernel_rfl
theorem put_20 (q : Nat → Int) (cols wide right : Int) (h : (cols = 1 ∧ right = 0 ∧ wide = 1) ∨ (cols = 1 ∧ right = 0 ∧ wide = 2) ∨ (cols = 1 ∧ right = 1 ∧ wide = 2) ∨ (cols = 2 ∧ right = 0 ∧ wide = 2) ∨ (cols = 1 ∧ right = 0 ∧ wide = 3) ∨ (cols = 1 ∧ right = 1 ∧ wide = 3) ∨ (cols = 1 ∧ right = 2 ∧ wide = 3) ∨ (cols = 2 ∧ right = 0 ∧ wide = 3) ∨ (cols = 2 ∧ right = 1 ∧ wide = 3) ∨ (cols = 3 ∧ right = 0 ∧ wide = 3)) :
    fnK Try.prog (kc (tabOf [])) 40 (rnd [] 40 10) 120 [.agg [I 2, I cols, I wide, I 0, I right], .agg (cellsI .u8 9 q)] done = some (.agg (cellsI .u8 9 (movQ 2 cols.toNat wide.toNat 0 right.toNat q)), [], true) := by
  rcases h with ⟨rfl, rfl, rfl⟩ | ⟨rfl, rfl, rfl⟩ | ⟨rfl, rfl, rfl⟩ | ⟨rfl, rfl, rfl⟩ | ⟨rfl, rfl, rfl⟩ | ⟨rfl, rfl, rfl⟩ | ⟨rfl, rfl, rfl⟩ | ⟨rfl, rfl, rfl⟩ | ⟨rfl, rfl, rfl⟩ | ⟨rfl, rfl, rfl⟩ <;> kernel_rfl
theorem put_21 (q : Nat → Int) (cols wide right : Int) (h : (cols = 1 ∧ right = 0 ∧ wide = 1) ∨ (cols = 1 ∧ right = 0 ∧ wide = 2) ∨ (cols = 1 ∧ right = 1 ∧ wide = 2) ∨ (cols = 2 ∧ right = 0 ∧ wide = 2) ∨ (cols = 1 ∧ right = 0 ∧ wide = 3) ∨ (cols = 1 ∧ right = 1 ∧ wide = 3) ∨ (cols = 1 ∧ right = 2 ∧ wide = 3) ∨ (cols = 2 ∧ right = 0 ∧ wide = 3) ∨ (cols = 2 ∧ right = 1 ∧ wide = 3) ∨ (cols = 3 ∧ right = 0 ∧ wide = 3)) :
    fnK Try.prog (kc (tabOf [])) 40 (rnd [] 40 10) 120 [.agg [I 2, I cols, I wide, I 1, I right], .agg (cellsI .u8 9 q)] done = some (.agg (cellsI .u8 9 (movQ 2 cols.toNat wide.toNat 1 right.toNat q)), [], true) := by
  rcases h with ⟨rfl, rfl, rfl⟩ | ⟨rfl, rfl, rfl⟩ | ⟨rfl, rfl, rfl⟩ | ⟨rfl, rfl, rfl⟩ | ⟨rfl, rfl, rfl⟩ | ⟨rfl, rfl, rfl⟩ | ⟨rfl, rfl, rfl⟩ | ⟨rfl, rfl, rfl⟩ | ⟨rfl, rfl, rfl⟩ | ⟨rfl, rfl, rfl⟩ <;> kernel_rfl
theorem put_30 (q : Nat → Int) (cols wide right : Int) (h : (cols = 1 ∧ right = 0 ∧ wide = 1) ∨ (cols = 1 ∧ right = 0 ∧ wide = 2) ∨ (cols = 1 ∧ right = 1 ∧ wide = 2) ∨ (cols = 2 ∧ right = 0 ∧ wide = 2) ∨ (cols = 1 ∧ right = 0 ∧ wide = 3) ∨ (cols = 1 ∧ right = 1 ∧ wide = 3) ∨ (cols = 1 ∧ right = 2 ∧ wide = 3) ∨ (cols = 2 ∧ right = 0 ∧ wide = 3) ∨ (cols = 2 ∧ right = 1 ∧ wide = 3) ∨ (cols = 3 ∧ right = 0 ∧ wide = 3)) :
    fnK Try.prog (kc (tabOf [])) 40 (rnd [] 40 10) 120 [.agg [I 3, I cols, I wide, I 0, I right], .agg (cellsI .u8 9 q)] done = some (.agg (cellsI .u8 9 (movQ 3 cols.toNat wide.toNat 0 right.toNat q)), [], true) := by
  rcases h with ⟨rfl, rfl, rfl⟩ | ⟨rfl, rfl, rfl⟩ | ⟨rfl, rfl, rfl⟩ | ⟨rfl, rfl, rfl⟩ | ⟨rfl, rfl, rfl⟩ | ⟨rfl, rfl, rfl⟩ | ⟨rfl, rfl, rfl⟩ | ⟨rfl, rfl, rfl⟩ | ⟨rfl, rfl, rfl⟩ | ⟨rfl, rfl, rfl⟩ <;> kernel_rfl
theorem put_ok : EntOk e_put := by
  intro vs v new hv
  unfold e_put at hv
  simp only at hv
  split at hv
  · simp only [Option.map_eq_some_iff, Prod.mk.injEq] at hv
    obtain ⟨l, hl, h1, rfl, rfl⟩ := hv
    rw [u8s_eq hl]
    obtain ⟨h2, h3⟩ := movB_cases h1
    rcases h2 with ⟨rfl, rfl⟩ | ⟨rfl, rfl⟩ | ⟨rfl, rfl⟩ | ⟨rfl, rfl⟩ | ⟨rfl, rfl⟩ | ⟨rfl, rfl⟩
    · exact ent_run none_ok rfl same_weak rfl rfl (put_10 _ _ _ _ h3) (cleanL_cells _ _ _ _) cleanB_nil
    · exact ent_run none_ok rfl same_weak rfl rfl (put_11 _ _ _ _ h3) (cleanL_cells _ _ _ _) cleanB_nil
    · exact ent_run none_ok rfl same_weak rfl rfl (put_12 _ _ _ _ h3) (cleanL_cells _ _ _ _) cleanB_nil
    · exact ent_run none_ok rfl same_weak rfl rfl (put_20 _ _ _ _ h3) (cleanL_cells _ _ _ _) cleanB_nil
    · exact ent_run none_ok rfl same_weak rfl rfl (put_21 _ _ _ _ h3) (cleanL_cells _ _ _ _) cleanB_nil
    · exact ent_run none_ok rfl same_weak rfl rfl (put_30 _ _ _ _ h3) (cleanL_cells _ _ _ _) cleanB_nil
  · cases hv
theorem l02Moved_10 (q : Nat → Int) (cols wide right : Int) (h : (cols = 1 ∧ right = 0 ∧ wide = 1) ∨ (cols = 1 ∧ right = 0 ∧ wide = 2) ∨ (cols = 1 ∧ right = 1 ∧ wide = 2) ∨ (cols = 2 ∧ right = 0 ∧ wide = 2) ∨ (cols = 1 ∧ right = 0 ∧ wide = 3) ∨ (cols = 1 ∧ right = 1 ∧ wide = 3) ∨ (cols = 1 ∧ right = 2 ∧ wide = 3) ∨ (cols = 2 ∧ right = 0 ∧ wide = 3) ∨ (cols = 2 ∧ right = 1 ∧ wide = 3) ∨ (cols = 3 ∧ right = 0 ∧ wide = 3)) :
    fnK Try.prog (kc (tabOf [])) 40 (rnd [] 40 10) 124 [.agg (cellsI .u8 9 q), I 1, I cols, I wide, I 0, I right] done = some (.agg (cellsI .u8 9 (movQ 1 cols.toNat wide.toNat 0 right.toNat q)), [], true) := by
  rcases h with ⟨rfl, rfl, rfl⟩ | ⟨rfl, rfl, rfl⟩ | ⟨rfl, rfl, rfl⟩ | ⟨rfl, rfl, rfl⟩ | ⟨rfl, rfl, rfl⟩ | ⟨rfl, rfl, rfl⟩ | ⟨rfl, rfl, rfl⟩ | ⟨rfl, rfl, rfl⟩ | ⟨rfl, rfl, rfl⟩ | ⟨rfl, rfl, rfl⟩ <;> kernel_rfl
theorem l02Moved_11 (q : Nat → Int) (cols wide right : Int) (h : (cols = 1 ∧ right = 0 ∧ wide = 1) ∨ (cols = 1 ∧ right = 0 ∧ wide = 2) ∨ (cols = 1 ∧ right = 1 ∧ wide = 2) ∨ (cols = 2 ∧ right = 0 ∧ wide = 2) ∨ (cols = 1 ∧ right = 0 ∧ wide = 3) ∨ (cols = 1 ∧ right = 1 ∧ wide = 3) ∨ (cols = 1 ∧ right = 2 ∧ wide = 3) ∨ (cols = 2 ∧ right = 0 ∧ wide = 3) ∨ (cols = 2 ∧ right = 1 ∧ wide = 3) ∨ (cols = 3 ∧ right = 0 ∧ wide = 3)) :
    fnK Try.prog (kc (tabOf [])) 40 (rnd [] 40 10) 124 [.agg (cellsI .u8 9 q), I 1, I cols, I wide, I 1, I right] done = some (.agg (cellsI .u8 9 (movQ 1 cols.toNat wide.toNat 1 right.toNat q)), [], true) := by
  rcases h with ⟨rfl, rfl, rfl⟩ | ⟨rfl, rfl, rfl⟩ | ⟨rfl, rfl, rfl⟩ | ⟨rfl, rfl, rfl⟩ | ⟨rfl, rfl, rfl⟩ | ⟨rfl, rfl, rfl⟩ | ⟨rfl, rfl, rfl⟩ | ⟨rfl, rfl, rfl⟩ | ⟨rfl, rfl, rfl⟩ | ⟨rfl, rfl, rfl⟩ <;> kernel_rfl
theorem l02Moved_12 (q : Nat → Int) (cols wide right : Int) (h : (cols = 1 ∧ right = 0 ∧ wide = 1) ∨ (cols = 1 ∧ right = 0 ∧ wide = 2) ∨ (cols = 1 ∧ right = 1 ∧ wide = 2) ∨ (cols = 2 ∧ right = 0 ∧ wide = 2) ∨ (cols = 1 ∧ right = 0 ∧ wide = 3) ∨ (cols = 1 ∧ right = 1 ∧ wide = 3) ∨ (cols = 1 ∧ right = 2 ∧ wide = 3) ∨ (cols = 2 ∧ right = 0 ∧ wide = 3) ∨ (cols = 2 ∧ right = 1 ∧ wide = 3) ∨ (cols = 3 ∧ right = 0 ∧ wide = 3)) :
    fnK Try.prog (kc (tabOf [])) 40 (rnd [] 40 10) 124 [.agg (cellsI .u8 9 q), I 1, I cols, I wide, I 2, I right] done = some (.agg (cellsI .u8 9 (movQ 1 cols.toNat wide.toNat 2 right.toNat q)), [], true) := by
  rcases h with ⟨rfl, rfl, rfl⟩ | ⟨rfl, rfl, rfl⟩ | ⟨rfl, rfl, rfl⟩ | ⟨rfl, rfl, rfl⟩ | ⟨rfl, rfl, rfl⟩ | ⟨rfl, rfl, rfl⟩ | ⟨rfl, rfl, rfl⟩ | ⟨rfl, rfl, rfl⟩ | ⟨rfl, rfl, rfl⟩ | ⟨rfl, rfl, rfl⟩ <;> kernel_rfl
theorem l02Moved_20 (q : Nat → Int) (cols wide right : Int) (h : (cols = 1 ∧ right = 0 ∧ wide = 1) ∨ (cols = 1 ∧ right = 0 ∧ wide = 2) ∨ (cols = 1 ∧ right = 1 ∧ wide = 2) ∨ (cols = 2 ∧ right = 0 ∧ wide = 2) ∨ (cols = 1 ∧ right = 0 ∧ wide = 3) ∨ (cols = 1 ∧ right = 1 ∧ wide = 3) ∨ (cols = 1 ∧ right = 2 ∧ wide = 3) ∨ (cols = 2 ∧ right = 0 ∧ wide = 3) ∨ (cols = 2 ∧ right = 1 ∧ wide = 3) ∨ (cols = 3 ∧ right = 0 ∧ wide = 3)) :
    fnK Try.prog (kc (tabOf [])) 40 (rnd [] 40 10) 124 [.agg (cellsI .u8 9 q), I 2, I cols, I wide, I 0, I right] done = some (.agg (cellsI .u8 9 (movQ 2 cols.toNat wide.toNat 0 right.toNat q)), [], true) := by
  rcases h with ⟨rfl, rfl, rfl⟩ | ⟨rfl, rfl, rfl⟩ | ⟨rfl, rfl, rfl⟩ | ⟨rfl, rfl, rfl⟩ | ⟨rfl, rfl, rfl⟩ | ⟨rfl, rfl, rfl⟩ | ⟨rfl, rfl, rfl⟩ | ⟨rfl, rfl, rfl⟩ | ⟨rfl, rfl, rfl⟩ | ⟨rfl, rfl, rfl⟩ <;> kernel_rfl
theorem l02Moved_21 (q : Nat → Int) (cols wide right : Int) (h : (cols = 1 ∧ right = 0 ∧ wide = 1) ∨ (cols = 1 ∧ right = 0 ∧ wide = 2) ∨ (cols = 1 ∧ right = 1 ∧ wide = 2) ∨ (cols = 2 ∧ right = 0 ∧ wide = 2) ∨ (cols = 1 ∧ right = 0 ∧ wide = 3) ∨ (cols = 1 ∧ right = 1 ∧ wide = 3) ∨ (cols = 1 ∧ right = 2 ∧ wide = 3) ∨ (cols = 2 ∧ right = 0 ∧ wide = 3) ∨ (cols = 2 ∧ right = 1 ∧ wide = 3) ∨ (cols = 3 ∧ right = 0 ∧ wide = 3)) :
    fnK Try.prog (kc (tabOf [])) 40 (rnd [] 40 10) 124 [.agg (cellsI .u8 9 q), I 2, I cols, I wide, I 1, I right] done = some (.agg (cellsI .u8 9 (movQ 2 cols.toNat wide.toNat 1 right.toNat q)), [], true) := by
  rcases h with ⟨rfl, rfl, rfl⟩ | ⟨rfl, rfl, rfl⟩ | ⟨rfl, rfl, rfl⟩ | ⟨rfl, rfl, rfl⟩ | ⟨rfl, rfl, rfl⟩ | ⟨rfl, rfl, rfl⟩ | ⟨rfl, rfl, rfl⟩ | ⟨rfl, rfl, rfl⟩ | ⟨rfl, rfl, rfl⟩ | ⟨rfl, rfl, rfl⟩ <;> kernel_rfl
theorem l02Moved_30 (q : Nat → Int) (cols wide right : Int) (h : (cols = 1 ∧ right = 0 ∧ wide = 1) ∨ (cols = 1 ∧ right = 0 ∧ wide = 2) ∨ (cols = 1 ∧ right = 1 ∧ wide = 2) ∨ (cols = 2 ∧ right = 0 ∧ wide = 2) ∨ (cols = 1 ∧ right = 0 ∧ wide = 3) ∨ (cols = 1 ∧ right = 1 ∧ wide = 3) ∨ (cols = 1 ∧ right = 2 ∧ wide = 3) ∨ (cols = 2 ∧ right = 0 ∧ wide = 3) ∨ (cols = 2 ∧ right = 1 ∧ wide = 3) ∨ (cols = 3 ∧ right = 0 ∧ wide = 3)) :
    fnK Try.prog (kc (tabOf [])) 40 (rnd [] 40 10) 124 [.agg (cellsI .u8 9 q), I 3, I cols, I wide, I 0, I right] done = some (.agg (cellsI .u8 9 (movQ 3 cols.toNat wide.toNat 0 right.toNat q)), [], true) := by
  rcases h with ⟨rfl, rfl, rfl⟩ | ⟨rfl, rfl, rfl⟩ | ⟨rfl, rfl, rfl⟩ | ⟨rfl, rfl, rfl⟩ | ⟨rfl, rfl, rfl⟩ | ⟨rfl, rfl, rfl⟩ | ⟨rfl, rfl, rfl⟩ | ⟨rfl, rfl, rfl⟩ | ⟨rfl, rfl, rfl⟩ | ⟨rfl, rfl, rfl⟩ <;> kernel_rfl
theorem l02Moved_ok : EntOk e_l02Moved := by
  intro vs v new hv
  unfold e_l02Moved at hv
  simp only at hv
  split at hv
  · simp only [Option.map_eq_some_iff, Prod.mk.injEq] at hv
    obtain ⟨l, hl, h1, rfl, rfl⟩ := hv
    rw [u8s_eq hl]
    obtain ⟨h2, h3⟩ := movB_cases h1
    rcases h2 with ⟨rfl, rfl⟩ | ⟨rfl, rfl⟩ | ⟨rfl, rfl⟩ | ⟨rfl, rfl⟩ | ⟨rfl, rfl⟩ | ⟨rfl, rfl⟩
    · exact ent_run none_ok rfl same_weak rfl rfl (l02Moved_10 _ _ _ _ h3) (cleanL_cells _ _ _ _) cleanB_nil
    · exact ent_run none_ok rfl same_weak rfl rfl (l02Moved_11 _ _ _ _ h3) (cleanL_cells _ _ _ _) cleanB_nil
    · exact ent_run none_ok rfl same_weak rfl rfl (l02Moved_12 _ _ _ _ h3) (cleanL_cells _ _ _ _) cleanB_nil
    · exact ent_run none_ok rfl same_weak rfl rfl (l02Moved_20 _ _ _ _ h3) (cleanL_cells _ _ _ _) cleanB_nil
    · exact ent_run none_ok rfl same_weak rfl rfl (l02Moved_21 _ _ _ _ h3) (cleanL_cells _ _ _ _) cleanB_nil
    · exact ent_run none_ok rfl same_weak rfl rfl (l02Moved_30 _ _ _ _ h3) (cleanL_cells _ _ _ _) cleanB_nil
  · cases hv
end Go.Proofs.Ytpjhlkidebcllaa.Fn
