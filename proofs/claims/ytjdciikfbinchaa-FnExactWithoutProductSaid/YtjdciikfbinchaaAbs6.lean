/- The abstract machine: arithmetic, comparing, converting, cutting: what it tells is so. -/
import Derived.Test.YtjdciikfbinchaaAbs5
namespace Go.Proofs.Ytjdciikfbinchaa.Abs
open Go

section
variable {P : Program} {M : Mem} {ρ : Rho} {β : Nat → Option Nat} {hp : List Blk} {w : World}

theorem guard_false : ∀ (d t : Nat) (l : List LK), leavesT P d t = some l → ∀ D, d ≤ D → P.eqGuardType D t = false := by
  intro d
  induction d with
  | zero => intro t l h; simp [leavesT] at h
  | succ d ih =>
    intro t l h D hD
    obtain ⟨D, rfl⟩ : ∃ n, D = n + 1 := ⟨D - 1, by omega⟩
    unfold leavesT at h
    unfold Program.eqGuardType
    cases hu : P.underlying t with
    | none => rfl
    | some k =>
      rw [hu] at h
      cases k <;> simp at h ⊢
      case array n e =>
        cases hl : leavesT P d e with
        | none => simp [hl] at h
        | some le => exact ih e le hl D (by omega)
      case struct fs =>
        obtain ⟨_, h⟩ := h
        have key : ∀ (gs : List Field) (l : List LK) (s : Nat), leavesF P (leavesT P d) gs s = some l → ∀ f ∈ gs, P.eqGuardType D f.type = false := by
          intro gs
          induction gs with
          | nil => intro l s _ f hf; cases hf
          | cons g gs ihg =>
            intro l s hl f hf
            simp only [leavesF] at hl
            cases hlf : leavesT P d g.type with
            | none => simp [hlf] at hl
            | some le =>
              cases hi : P.info? g.type with
              | none => simp [hlf, hi] at hl
              | some i =>
                simp only [hlf, hi] at hl
                split at hl
                · simp only [Option.map_eq_some_iff] at hl
                  obtain ⟨lr, hlr, rfl⟩ := hl
                  rcases List.mem_cons.1 hf with rfl | hf
                  · exact ih _ le hlf D (by omega)
                  · exact ihg lr _ hlr f hf
                · cases hl
        intro i hi _
        exact key fs.toList l 0 h _ (by simp)

theorem eqCells_cons {l : LK} {ls : List LK} {x y : AV} {xs ys : List AV} {r : Bool} (h : eqCells (l :: ls) (x :: xs) (y :: ys) = some r) :
    (∃ k a b r', l = .int ∧ x = .int k a ∧ y = .int k b ∧ eqCells ls xs ys = some r' ∧ r = (decide (a = b) && r')) ∨ (∃ a b r', l = .bool ∧ x = .bool a ∧ y = .bool b ∧ eqCells ls xs ys = some r' ∧ r = ((a == b) && r')) ∨
    (∃ a b r', l = .str ∧ x = .str a ∧ y = .str b ∧ eqCells ls xs ys = some r' ∧ r = ((a.toList == b.toList) && r')) := by
  unfold eqCells at h
  split at h
  · rename_i h1 h2 h3; cases h1
  · rename_i ls' k a xs' k' b ys' h1 h2 h3
    cases h1; cases h2; cases h3
    split at h
    · rename_i hk
      subst hk
      simp only [Option.map_eq_some_iff] at h
      obtain ⟨r', hr, rfl⟩ := h
      exact .inl ⟨k, a, b, r', rfl, rfl, rfl, hr, rfl⟩
    · cases h
  · rename_i ls' a xs' b ys' h1 h2 h3
    cases h1; cases h2; cases h3
    simp only [Option.map_eq_some_iff] at h
    obtain ⟨r', hr, rfl⟩ := h
    exact .inr (.inl ⟨a, b, r', rfl, rfl, rfl, hr, rfl⟩)
  · rename_i ls' a xs' b ys' h1 h2 h3
    cases h1; cases h2; cases h3
    simp only [Option.map_eq_some_iff] at h
    obtain ⟨r', hr, rfl⟩ := h
    exact .inr (.inr ⟨a, b, r', rfl, rfl, rfl, hr, rfl⟩)
  · cases h

theorem eqCells_rel : ∀ (ls : List LK) (xs ys : List AV) (r : Bool) (us vs : List Value), eqCells ls xs ys = some r → us.length = xs.length → vs.length = ys.length →
    (∀ (j : Nat) x u, xs[j]? = some x → us[j]? = some u → VRel M ρ hp x u) → (∀ (j : Nat) x u, ys[j]? = some x → vs[j]? = some u → VRel M ρ hp x u) → Pairs ls us vs ∧ eqVs us vs = r := by
  intro ls
  induction ls with
  | nil =>
    intro xs ys r us vs h h1 h2 _ _
    cases xs with
    | cons x xs => cases ys <;> simp [eqCells] at h
    | nil =>
      cases ys with
      | cons y ys => simp [eqCells] at h
      | nil =>
        simp [eqCells] at h
        simp only [List.length_nil, List.length_eq_zero_iff] at h1 h2
        subst h1; subst h2; subst h
        exact ⟨trivial, rfl⟩
  | cons l ls ih =>
    intro xs ys r us vs h h1 h2 hx hy
    cases xs with
    | nil => cases l <;> simp [eqCells] at h
    | cons x xs =>
      cases ys with
      | nil => cases l <;> cases x <;> simp [eqCells] at h
      | cons y ys =>
        cases us with
        | nil => simp at h1
        | cons u us =>
          cases vs with
          | nil => simp at h2
          | cons v vs =>
            have reck : ∀ r', eqCells ls xs ys = some r' → Pairs ls us vs ∧ eqVs us vs = r' := fun r' hr =>
              ih xs ys r' us vs hr (by simpa using h1) (by simpa using h2) (fun j x u a b => hx (j + 1) x u (by simpa using a) (by simpa using b)) (fun j x u a b => hy (j + 1) x u (by simpa using a) (by simpa using b))
            have h0 := hx 0 x u rfl rfl
            have h0' := hy 0 y v rfl rfl
            rcases eqCells_cons h with ⟨k, a, b, r', rfl, rfl, rfl, hr, rfl⟩ | ⟨a, b, r', rfl, rfl, rfl, hr, rfl⟩ | ⟨a, b, r', rfl, rfl, rfl, hr, rfl⟩
            · obtain ⟨p, q⟩ := reck r' hr
              rw [h0.int_inv, h0'.int_inv]
              exact ⟨⟨⟨k, a, b, rfl, rfl⟩, p⟩, by simp only [eqVs, eqV, q]; rfl⟩
            · obtain ⟨p, q⟩ := reck r' hr
              rw [h0.bool_inv, h0'.bool_inv]
              exact ⟨⟨⟨a, b, rfl, rfl⟩, p⟩, by simp only [eqVs, eqV, q]⟩
            · obtain ⟨p, q⟩ := reck r' hr
              rw [h0.str_inv, h0'.str_inv]
              exact ⟨⟨⟨a, b, rfl, rfl⟩, p⟩, by simp only [eqVs, eqV, q]⟩

theorem bytesLt_eq : ∀ x y, bytesLt x y = Op.bytesLess x y
  | _, [] => by simp [bytesLt, Op.bytesLess]
  | [], _ :: _ => by simp [bytesLt, Op.bytesLess]
  | a :: x, b :: y => by simp only [bytesLt, Op.bytesLess, bytesLt_eq x y]

theorem depth_ge (P : Program) : 6 ≤ P.depth := by unfold Program.depth Made.depth; omega

theorem binI_rel {op : BinOp} {k : IntKind} {a b : Int} {v : AV} (hv : binI op k a b = some v) (t : Nat) :
    ∃ u, (binOp op t (.int k a) (.int k b)).run P w = .ok u w ∧ VRel M ρ hp v u := by
  unfold binI at hv
  cases op <;> simp only at hv
  case add => cases hv; exact ⟨_, by simp [binOp, Op.intArith] <;> rfl, .int _ _⟩
  case sub => cases hv; exact ⟨_, by simp [binOp, Op.intArith] <;> rfl, .int _ _⟩
  case mul => cases hv; exact ⟨_, by simp [binOp, Op.intArith] <;> rfl, .int _ _⟩
  case quo =>
    split at hv
    · cases hv
    · rename_i hb; cases hv; exact ⟨_, by simp [binOp, Op.intDiv, hb] <;> rfl, .int _ _⟩
  case rem =>
    split at hv
    · cases hv
    · rename_i hb; cases hv; exact ⟨_, by simp [binOp, Op.intDiv, hb] <;> rfl, .int _ _⟩
  case and => cases hv; exact ⟨_, by simp only [binOp, ne_eq, not_true_eq_false, if_false, Op.intBits, Sem.run_pure] <;> rfl, .int _ _⟩
  case or => cases hv; exact ⟨_, by simp only [binOp, ne_eq, not_true_eq_false, if_false, Op.intBits, Sem.run_pure] <;> rfl, .int _ _⟩
  case xor => cases hv; exact ⟨_, by simp only [binOp, ne_eq, not_true_eq_false, if_false, Op.intBits, Sem.run_pure] <;> rfl, .int _ _⟩
  case andNot => cases hv; exact ⟨_, by simp only [binOp, ne_eq, not_true_eq_false, if_false, Op.intBits, Sem.run_pure] <;> rfl, .int _ _⟩
  case eql => cases hv; exact ⟨.bool (decide (a = b)), by simp [binOp, Op.intCmp] <;> rfl, .bool _⟩
  case neq => cases hv; exact ⟨.bool (!decide (a = b)), by simp [binOp, Op.intCmp] <;> rfl, .bool _⟩
  case lss => cases hv; exact ⟨.bool (decide (a < b)), by simp [binOp, Op.intCmp], .bool _⟩
  case leq => cases hv; exact ⟨.bool (decide (a ≤ b)), by simp [binOp, Op.intCmp], .bool _⟩
  case gtr => cases hv; exact ⟨.bool (decide (b < a)), by simp [binOp, Op.intCmp], .bool _⟩
  case geq => cases hv; exact ⟨.bool (decide (b ≤ a)), by simp [binOp, Op.intCmp], .bool _⟩
  all_goals cases hv

theorem bin_rel {leaf : Option (List LK)} {op : BinOp} {t : Nat} {x y v : AV} {ox oy : Operand} {u1 u2 : Value} (hv : binA leaf op x y = some v)
    (hl : ∀ ls, leaf = some ls → leavesT P 6 t = some ls ∧ agg? (tyOf P t) = true) (h1 : VRel M ρ hp x u1) (h2 : VRel M ρ hp y u2) :
    ∃ u, ((do eqGuard op t ox oy u1 u2; binOp op t u1 u2) : Sem Value).run P w = .ok u w ∧ VRel M ρ hp v u := by
  unfold binA at hv
  split at hv
  · rename_i k a k' b
    rw [h1.int_inv, h2.int_inv]
    have hg : (eqGuard op t ox oy (.int k a) (.int k' b)).run P w = .ok () w := by
      unfold eqGuard; split <;> simp
    simp only [Sem.run_bind, hg, Result.andThen_ok]
    split at hv
    · split at hv
      · cases hv
      · rename_i hb; cases hv; exact ⟨_, by simp only [binOp, Op.shift, if_neg hb, Sem.run_pure] <;> rfl, .int _ _⟩
    · split at hv
      · cases hv
      · rename_i hb; cases hv; exact ⟨_, by simp only [binOp, Op.shift, if_neg hb, Sem.run_pure] <;> rfl, .int _ _⟩
    · split at hv
      · rename_i hk; subst hk; exact binI_rel hv t
      · cases hv
  · rename_i a b
    rw [h1.str_inv, h2.str_inv]
    have hg : (eqGuard op t ox oy (.string a) (.string b)).run P w = .ok () w := by
      unfold eqGuard; split <;> simp
    simp only [Sem.run_bind, hg, Result.andThen_ok]
    unfold binS at hv
    cases op <;> simp only at hv
    case add =>
      split at hv
      · rename_i hs
        cases hv
        refine ⟨.string (a ++ b), ?_, .str _⟩
        have : ¬ (((a.size + b.size : Nat) : Int) > IntKind.i64.max) := by
          unfold most at hs
          simp only [IntKind.max, IntKind.signed, IntKind.bits, if_true]
          omega
        simp only [binOp, Op.stringOp, if_neg this, Sem.run_pure]
      · cases hv
    case eql => cases hv; exact ⟨_, by simp only [binOp, Op.stringOp, Sem.run_pure] <;> rfl, .bool _⟩
    case neq => cases hv; exact ⟨_, by simp only [binOp, Op.stringOp, Sem.run_pure] <;> rfl, .bool _⟩
    case lss => cases hv; exact ⟨_, by simp only [binOp, Op.stringOp, Sem.run_pure, ← bytesLt_eq] <;> rfl, .bool _⟩
    case leq => cases hv; exact ⟨_, by simp only [binOp, Op.stringOp, Sem.run_pure, ← bytesLt_eq] <;> rfl, .bool _⟩
    case gtr => cases hv; exact ⟨_, by simp only [binOp, Op.stringOp, Sem.run_pure, ← bytesLt_eq] <;> rfl, .bool _⟩
    case geq => cases hv; exact ⟨_, by simp only [binOp, Op.stringOp, Sem.run_pure, ← bytesLt_eq] <;> rfl, .bool _⟩
    all_goals cases hv
  · rename_i a b
    cases h1 with
    | @agg _ c1 hs1 _ h1 =>
      cases h2 with
      | @agg _ c2 hs2 _ h2 =>
        have key : ∀ ls r, leaf = some ls → eqCells ls a b = some r → (eqGuard op t ox oy (.agg c1) (.agg c2)).run P w = .ok () w ∧ (Op.equalIn 10000 t (.agg c1) (.agg c2)).run P w = .ok r w := by
          intro ls r hls hr
          obtain ⟨hlv, hag⟩ := hl ls hls
          obtain ⟨hp1, hq⟩ := eqCells_rel ls a b r c1.toList c2.toList hr (by simpa using hs1) (by simpa using hs2) (fun j x u p q => h1 j x u p (by simpa using q)) (fun j x u p q => h2 j x u p (by simpa using q))
          refine ⟨run_eqGuard_agg w op t ox oy c1 c2 (guard_false 6 t ls hlv _ (depth_ge P)), ?_⟩
          have := equalIn_run 6 t ls hlv 10000 w (.agg c1) (.agg c2) (by omega) (by unfold Formed; rw [if_pos hag]; exact ⟨_, rfl⟩) (by unfold Formed; rw [if_pos hag]; exact ⟨_, rfl⟩) hp1
          rw [this]
          show Result.ok (eqVs c1.toList c2.toList) w = _
          rw [hq]
        split at hv
        · simp only [Option.bind_eq_some_iff, Option.map_eq_some_iff] at hv
          obtain ⟨ls, hls, r, hr, rfl⟩ := hv
          obtain ⟨k1, k2⟩ := key ls r hls hr
          exact ⟨.bool r, by simp only [Sem.run_bind, k1, Result.andThen_ok, run_eql_struct, k2], .bool _⟩
        · simp only [Option.bind_eq_some_iff, Option.map_eq_some_iff] at hv
          obtain ⟨ls, hls, r, hr, rfl⟩ := hv
          obtain ⟨k1, k2⟩ := key ls r hls hr
          exact ⟨.bool (!r), by simp only [Sem.run_bind, k1, Result.andThen_ok, run_neq_struct, k2], .bool _⟩
        · cases hv
  · cases hv

theorem run_equal_bool (t : Nat) (ht : P.underlying t = some .bool) (a b : Bool) : (Op.equal t (.bool a) (.bool b)).run P w = .ok (a == b) w := by
  have : ∀ d, (Op.equalIn (d + 1) t (.bool a) (.bool b)).run P w = .ok (a == b) w := fun d => by
    simp only [Op.equalIn, Sem.run_bind, run_underlying ht, Result.andThen_ok, Sem.run_pure]
  exact this 9999

theorem binT_rel {op : BinOp} {t : Nat} {x y v : AV} {ox oy : Operand} {u1 u2 : Value} (hv : binT (tiOf P t) op x y = some v)
    (hl : ∀ ls, (tiOf P t).bind (·.leaf) = some ls → leavesT P 6 t = some ls ∧ agg? (tyOf P t) = true) (hb : ∀ ti, tiOf P t = some ti → ti.d = .bool → P.underlying t = some .bool) (h1 : VRel M ρ hp x u1) (h2 : VRel M ρ hp y u2) :
    ∃ u, ((do eqGuard op t ox oy u1 u2; binOp op t u1 u2) : Sem Value).run P w = .ok u w ∧ VRel M ρ hp v u := by
  unfold binT at hv
  split at hv
  · rename_i a b
    rw [h1.bool_inv, h2.bool_inv]
    have hg : (eqGuard op t ox oy (.bool a) (.bool b)).run P w = .ok () w := by
      unfold eqGuard; split <;> simp
    simp only [Sem.run_bind, hg, Result.andThen_ok]
    simp only [Option.bind_eq_some_iff] at hv
    obtain ⟨ti, hti, hv⟩ := hv
    split at hv
    · rename_i hd
      cases hv
      exact ⟨.bool (a == b), by simp [binOp, run_equal_bool t (hb ti hti hd)], .bool _⟩
    · rename_i hd
      cases hv
      exact ⟨.bool (!(a == b)), by simp [binOp, run_equal_bool t (hb ti hti hd)], .bool _⟩
    · cases hv
  · exact bin_rel hv hl h1 h2

theorem un_rel {op : UnOp} {x v : AV} {u : Value} (hv : unA op x = some v) (h : VRel M ρ hp x u) : ∃ u', (Op.unary op u).run P w = .ok u' w ∧ VRel M ρ hp v u' := by
  unfold unA at hv
  split at hv
  · rw [h.int_inv]; cases hv; exact ⟨_, by simp only [Op.unary, Op.intArith, Sem.run_pure] <;> rfl, .int _ _⟩
  · rw [h.bool_inv]; cases hv; exact ⟨_, by simp only [Op.unary, Sem.run_pure] <;> rfl, .bool _⟩
  · cases hv

theorem foldI_rel {f : Int → Int → Int} {g : Value → Value → Sem Value} (hg : ∀ k a k' b, (g (.int k a) (.int k' b)).run P w = .ok (.int k (f a b)) w) :
    ∀ (l : List AV) (k : IntKind) (n : Int) (v : AV) (us : List Value), foldI f k n l = some v → us.length = l.length → (∀ (j : Nat) x u, l[j]? = some x → us[j]? = some u → ERel M ρ β hp x u) →
    ∃ u, (us.foldlM g (.int k n)).run P w = .ok u w ∧ VRel M ρ hp v u := by
  intro l
  induction l with
  | nil =>
    intro k n v us h hl _
    simp [foldI] at h
    simp only [List.length_nil, List.length_eq_zero_iff] at hl
    subst hl; subst h
    exact ⟨_, by simp <;> rfl, .int _ _⟩
  | cons x l ih =>
    intro k n v us h hl hr
    cases us with
    | nil => simp at hl
    | cons u us =>
      cases x <;> simp [foldI] at h
      rename_i k' m
      have hu := (hr 0 _ u rfl rfl).int_inv
      subst hu
      obtain ⟨u', hu', hv'⟩ := ih k (f n m) v us h (by simpa using hl) (fun j x u a b => hr (j + 1) x u (by simpa using a) (by simpa using b))
      exact ⟨u', by simp only [List.foldlM_cons, Sem.run_bind, hg, Result.andThen_ok, hu'], hv'⟩

end
end Go.Proofs.Ytjdciikfbinchaa.Abs
