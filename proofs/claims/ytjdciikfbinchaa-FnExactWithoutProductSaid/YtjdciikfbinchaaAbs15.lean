/- The abstract machine: what an operation does hangs on what it looks at alone. -/
import Derived.Test.YtjdciikfbinchaaAbs2
namespace Go.Proofs.Ytjdciikfbinchaa.Abs
open Go

section
variable {T : Nat → Option TI} {rec : Rec} {cfg : Cfg} {st st' : St} {o : Oper} {e : Eff}

theorem args_ag {env env' : List (Nat × AV)} : ∀ (l : List Operand), (∀ x ∈ l, opd env' x = opd env x) → args env' l = args env l
  | [], _ => rfl
  | x :: l, h => by simp only [args, h x (by simp), args_ag l fun y hy => h y (by simp [hy])]

theorem opds_ag {env env' : List (Nat × AV)} : ∀ (l : List (Nat × Operand)), (∀ x ∈ l.map (·.2), opd env' x = opd env x) → opds env' l = opds env l
  | [], _ => rfl
  | (i, x) :: l, h => by simp only [opds, h x (by simp), opds_ag l fun y hy => h y (by simp at hy ⊢; exact .inr hy)]

theorem optI_ag {env env' : List (Nat × AV)} (x : Option Operand) (h : ∀ y, x = some y → opd env' y = opd env y) : optI env' x = optI env x := by
  cases x with
  | none => rfl
  | some y => simp only [optI, h y rfl]

theorem builtinA_ag (hh : st'.hp = st.hp) (hn : st'.n0 = st.n0) (b : Builtin) (tys : List Nat) (vs : List AV) : builtinA T st' b tys vs = builtinA T st b tys vs := by
  unfold builtinA
  rw [hh, hn]

theorem storeA_lo {lo lo' : List (Nat × List AV)} {hp : List Blk} {n0 ty : Nat} {p v : AV} (hl : ∀ d c, p = .lptr d c → ∀ r, lo.lookup d = some r → lo'.lookup d = some r) (h : storeA T lo hp n0 ty p v = some e) : storeA T lo' hp n0 ty p v = some e := by
  unfold storeA at h ⊢
  split at h
  · split at h
    · rename_i hc
      simp only [hc, and_self, if_true]
      split at h
      · rename_i d c
        split at h
        · rename_i row hrow
          rw [hl d c rfl row hrow]
          exact h
        · cases h
      · exact h
      · cases h
    · cases h
  · cases h

theorem loadA_lo {lo lo' : List (Nat × List AV)} {hp : List Blk} {ty : Nat} {p v : AV} (hl : ∀ d c, p = .lptr d c → ∀ r, lo.lookup d = some r → lo'.lookup d = some r) (h : loadA T lo hp ty p = some v) : loadA T lo' hp ty p = some v := by
  cases p with
  | lptr d c =>
    simp only [loadA, rowAt, Option.bind_eq_some_iff, Option.map_eq_some_iff] at h ⊢
    obtain ⟨x, ⟨r, hr, hx⟩, h⟩ := h
    exact ⟨x, ⟨r, hl d c rfl r hr, hx⟩, h⟩
  | _ => exact h

/-- the slots and the variables may be others, where nobody looks -/
theorem eff_ag1 (op : ∀ x ∈ o.op.operands.toList, opd st'.env x = opd st.env x) (hl : ∀ x ∈ o.op.operands.toList, ∀ d c, opd st.env x = some (.lptr d c) → ∀ r, st.lo.lookup d = some r → st'.lo.lookup d = some r)
    (hh : st'.hp = st.hp) (hn : st'.n0 = st.n0) (h : eff T rec cfg o st = some e) : eff T rec cfg o st' = some e := by
  unfold eff at h ⊢
  cases ho : o.op with
  | load t p =>
    rw [ho] at h
    have hp := op p (by simp [ho, Op.operands])
    simp only [Option.bind_eq_some_iff] at h ⊢
    obtain ⟨vp, h1, h2⟩ := h
    refine ⟨vp, by rw [hp]; exact h1, ?_⟩
    unfold val at h2 ⊢
    simp only [Option.map_eq_some_iff] at h2 ⊢
    obtain ⟨v, hv, rfl⟩ := h2
    exact ⟨v, by rw [hh]; exact loadA_lo (fun d c hd => hl p (by simp [ho, Op.operands]) d c (by rw [h1, hd])) hv, rfl⟩
  | store t p x =>
    rw [ho] at h
    have hp := op p (by simp [ho, Op.operands])
    have hx := op x (by simp [ho, Op.operands])
    simp only [Option.bind_eq_some_iff] at h ⊢
    obtain ⟨vp, h1, vx, h2, h3⟩ := h
    exact ⟨vp, by rw [hp]; exact h1, vx, by rw [hx]; exact h2, by rw [hh, hn]; exact storeA_lo (fun d c hd => hl p (by simp [ho, Op.operands]) d c (by rw [h1, hd])) h3⟩
  | build t parts =>
    rw [ho] at h
    simp only at h ⊢
    rw [opds_ag parts.toList fun x hx => op x (by simpa [ho, Op.operands] using hx)]
    exact h
  | buildSlice t n parts =>
    rw [ho] at h
    simp only at h ⊢
    rw [opds_ag parts.toList fun x hx => op x (by simpa [ho, Op.operands] using hx), hh]
    exact h
  | makeFunc fn first captured =>
    rw [ho] at h
    simp only at h ⊢
    rw [args_ag captured.toList fun x hx => op x (by simp only [ho, Op.operands, Array.toList_append, List.mem_append]; exact .inr hx)]
    exact h
  | slice t x l u m =>
    rw [ho] at h
    simp only at h ⊢
    have hx := op x (by simp [ho, Op.operands])
    rw [hx, optI_ag l fun y hy => op y (by simp [ho, Op.operands, hy]), optI_ag u fun y hy => op y (by simp [ho, Op.operands, hy]), optI_ag m fun y hy => op y (by simp [ho, Op.operands, hy]), hh]
    exact h
  | call c =>
    rw [ho] at h
    simp only at h ⊢
    rw [args_ag c.args.toList fun x hx => op x (by simp only [ho, Op.operands, Call.operands, Array.toList_append, List.mem_append]; exact .inr hx), hh, hn]
    cases hc : c.callee with
    | builtin b =>
      rw [hc] at h
      simp only [builtinA_ag hh hn]
      exact h
    | value x =>
      have hx := op x (by simp [ho, Op.operands, Call.operands, hc])
      rw [hc] at h
      cases x with
      | func f => exact h
      | _ => simp only [hx]; exact h
    | _ => rw [hc] at h; exact h
  | move x => rw [ho] at h; have hx := op x (by simp [ho, Op.operands]); simp only [hx]; exact h
  | assign x => rw [ho] at h; have hx := op x (by simp [ho, Op.operands]); simp only [hx]; exact h
  | pick c x y =>
    rw [ho] at h
    have h1 := op c (by simp [ho, Op.operands]); have h2 := op x (by simp [ho, Op.operands]); have h3 := op y (by simp [ho, Op.operands])
    simp only [h1, h2, h3]; exact h
  | alloc t => rw [ho] at h; simp only [hh]; exact h
  | box t x => rw [ho] at h; have hx := op x (by simp [ho, Op.operands]); simp only [hx, hh]; exact h
  | nilCheck x => rw [ho] at h; have hx := op x (by simp [ho, Op.operands]); simp only [hx, hh]; exact h
  | unOp p t x => rw [ho] at h; have hx := op x (by simp [ho, Op.operands]); simp only [hx]; exact h
  | convert s t x => rw [ho] at h; have hx := op x (by simp [ho, Op.operands]); simp only [hx, hh]; exact h
  | fieldAddr s x f => rw [ho] at h; have hx := op x (by simp [ho, Op.operands]); simp only [hx, hh]; exact h
  | field s x f => rw [ho] at h; have hx := op x (by simp [ho, Op.operands]); simp only [hx]; exact h
  | extract x i => rw [ho] at h; have hx := op x (by simp [ho, Op.operands]); simp only [hx]; exact h
  | binOp p t x y z => rw [ho] at h; have hx := op x (by simp [ho, Op.operands]); have hy := op y (by simp [ho, Op.operands]); simp only [hx, hy]; exact h
  | makeSlice t x y => rw [ho] at h; have hx := op x (by simp [ho, Op.operands]); have hy := op y (by simp [ho, Op.operands]); simp only [hx, hy, hh]; exact h
  | indexAddr t x y => rw [ho] at h; have hx := op x (by simp [ho, Op.operands]); have hy := op y (by simp [ho, Op.operands]); simp only [hx, hy, hh]; exact h
  | index t x y => rw [ho] at h; have hx := op x (by simp [ho, Op.operands]); have hy := op y (by simp [ho, Op.operands]); simp only [hx, hy]; exact h
  | _ => rw [ho] at h; cases h

/-! ### another heap -/
def Ag (hp hp' : List Blk) (v : AV) : Prop := ∀ k, Loc.hp k ∈ locH v → hp'[k]? = hp[k]?

theorem rowAt_ag {hp hp' : List Blk} {lo : List (Nat × List AV)} {v : AV} (h : Ag hp hp' v) : rowAt lo hp' v = rowAt lo hp v := by
  cases v with
  | ptr k r c t => have hk := h k (by simp [locH]); simp only [rowAt, fresh, hk]
  | _ => rfl
theorem sliceA_ag {hp hp' : List Blk} {v : AV} (h : Ag hp hp' v) (t : Nat) (l u m : Option Int) : sliceA T hp' t v l u m = sliceA T hp t v l u m := by
  cases v with
  | ptr k r c t => have hk := h k (by simp [locH]); simp only [sliceA, fresh, hk]
  | sl k r n t => have hk := h k (by simp [locH]); simp only [sliceA, fresh, hk]
  | _ => rfl
theorem lenA_ag {hp hp' : List Blk} {v : AV} (h : Ag hp hp' v) (t : Nat) : lenA T hp' t v = lenA T hp t v := by
  cases v with
  | ssl k r c n t => have hk := h k (by simp [locH]); simp only [lenA, fresh, hk]
  | sl k r n t => have hk := h k (by simp [locH]); simp only [lenA, fresh, hk]
  | _ => rfl
theorem indexAddrA_ag {hp hp' : List Blk} {v : AV} (h : Ag hp hp' v) (t : Nat) (i : AV) : indexAddrA T hp' t v i = indexAddrA T hp t v i := by
  cases v with
  | ptr k r c t => have hk := h k (by simp [locH]); simp only [indexAddrA, fresh, hk]
  | ssl k r c n t => have hk := h k (by simp [locH]); simp only [indexAddrA, fresh, hk]
  | sl k r n t => have hk := h k (by simp [locH]); simp only [indexAddrA, fresh, hk]
  | _ => rfl
theorem fieldAddrA_ag {hp hp' : List Blk} {v : AV} (h : Ag hp hp' v) (t f : Nat) : fieldAddrA T hp' t v f = fieldAddrA T hp t v f := by
  cases v with
  | ptr k r c t => have hk := h k (by simp [locH]); simp only [fieldAddrA, fresh, hk]
  | _ => rfl
theorem rowsA_ag {hp hp' : List Blk} {v : AV} (h : Ag hp hp' v) (n : Nat) : rowsA hp' n v = rowsA hp n v := by
  cases v with
  | sl k r n t => have hk := h k (by simp [locH]); simp only [rowsA, fresh, hk]
  | _ => rfl
theorem convA_ag {hp hp' : List Blk} {v : AV} (h : Ag hp hp' v) (s t : Nat) : convA T hp' s t v = convA T hp s t v := by
  cases v with
  | sl k r n t => have hk := h k (by simp [locH]); simp only [convA, rowsA, fresh, hk]
  | _ => rfl

theorem varA_ag {esc : Bool} {hp hp' : List Blk} {dst : Option Nat} {ty : Nat} {cs : List AV} (h : varA esc hp dst ty cs = some e) (hn : e.hp = none) : varA esc hp' dst ty cs = some e := by
  unfold varA at h ⊢
  split at h
  · cases esc with
    | true =>
      simp only [cond_true] at h
      split at h
      · cases h; cases hn
      · cases h
    | false => exact h
  · cases h
theorem appendA_ag {hp hp' : List Blk} {n0 el : Nat} {te : TI} {s : AV} {new : List (List AV)} (h : appendA hp n0 el te s new = some e) (hn : e.hp = none) : appendA hp' n0 el te s new = some e := by
  cases s with
  | nilsl =>
    cases new with
    | nil => exact h
    | cons r rs =>
      simp only [appendA] at h
      split at h
      · cases h; cases hn
      · cases h
  | esl =>
    cases new with
    | nil => exact h
    | cons r rs =>
      simp only [appendA] at h
      split at h
      · cases h; cases hn
      · cases h
  | sl k r n t =>
    cases r with
    | zero =>
      simp only [appendA] at h
      split at h
      · split at h
        · split at h
          · cases h; cases hn
          · split at h
            · cases h; cases hn
            · cases h
        · cases h
      · cases h
    | succ r => cases h
  | _ => cases h
theorem clearA_ag {hp hp' : List Blk} {n0 : Nat} {z : List AV} {x : AV} (h : clearA hp n0 z x = some e) (hn : e.hp = none) : clearA hp' n0 z x = some e := by
  cases x with
  | sl k r n t =>
    simp only [clearA, Option.bind_eq_some_iff] at h
    obtain ⟨b, hb, h⟩ := h
    split at h
    · cases h; cases hn
    · cases h
  | _ => exact h
theorem storeA_ag {lo : List (Nat × List AV)} {hp hp' : List Blk} {n0 ty : Nat} {p v : AV} (h : storeA T lo hp n0 ty p v = some e) (hn : e.hp = none) : storeA T lo hp' n0 ty p v = some e := by
  unfold storeA at h ⊢
  split at h
  · split at h
    · rename_i hc
      simp only [hc, and_self, if_true]
      split at h
      · exact h
      · split at h
        · split at h
          · split at h
            · cases h; cases hn
            · cases h
          · cases h
        · cases h
      · cases h
    · cases h
  · cases h

theorem args_get {env : List (Nat × AV)} : ∀ (l : List Operand) (vs : List AV), args env l = some vs → ∀ v ∈ vs, ∃ x ∈ l, opd env x = some v
  | [], vs, h, v, hv => by simp only [args, Option.some.injEq] at h; subst h; cases hv
  | x :: l, vs, h, v, hv => by
    simp only [args] at h
    split at h
    · rename_i u us hu hus
      cases h
      rcases List.mem_cons.1 hv with rfl | hv
      · exact ⟨x, by simp, hu⟩
      · obtain ⟨y, hy, h⟩ := args_get l us hus v hv
        exact ⟨y, by simp [hy], h⟩
    · cases h

/-- the heap may be another, where nobody looks -/
theorem eff_ag2 {hp' : List Blk} (hc : isCallFn o.op = false) (hn : e.hp = none) (ag : ∀ x ∈ looksH o.op, ∀ v, opd st.env x = some v → Ag st.hp hp' v) (h : eff T rec cfg o st = some e) : eff T rec cfg o { st with hp := hp' } = some e := by
  unfold eff at h ⊢
  cases ho : o.op with
  | load t p =>
    rw [ho] at h
    simp only [Option.bind_eq_some_iff] at h ⊢
    obtain ⟨vp, h1, h2⟩ := h
    exact ⟨vp, h1, by unfold loadA at h2 ⊢; rw [rowAt_ag (ag p (by simp [ho, looksH]) vp h1)]; exact h2⟩
  | store t p x =>
    rw [ho] at h
    simp only [Option.bind_eq_some_iff] at h ⊢
    obtain ⟨vp, h1, vx, h2, h3⟩ := h
    exact ⟨vp, h1, vx, h2, storeA_ag h3 hn⟩
  | alloc t =>
    rw [ho] at h
    simp only [Option.bind_eq_some_iff] at h ⊢
    obtain ⟨ti, h1, h2⟩ := h
    exact ⟨ti, h1, varA_ag h2 hn⟩
  | box t x =>
    rw [ho] at h
    simp only [Option.bind_eq_some_iff] at h ⊢
    obtain ⟨ti, h1, v, h2, h3⟩ := h
    refine ⟨ti, h1, v, h2, ?_⟩
    split at h3
    · rename_i hcnd
      rw [if_pos hcnd]
      exact varA_ag h3 hn
    · cases h3
  | buildSlice t n parts =>
    rw [ho] at h
    simp only [Option.bind_eq_some_iff] at h ⊢
    obtain ⟨el, h1, ps, h2, h3⟩ := h
    refine ⟨el, h1, ps, h2, ?_⟩
    obtain ⟨el, te⟩ := el
    simp only at h3 ⊢
    split at h3
    · rename_i hcnd
      rw [if_pos hcnd]
      simp only [Option.bind_eq_some_iff] at h3 ⊢
      obtain ⟨rows, hr, h3⟩ := h3
      refine ⟨rows, hr, ?_⟩
      cases hv : cfg.virt.contains (o.dst.getD 0) with
      | true => rw [hv] at h3; exact h3
      | false => rw [hv] at h3; cases h3; cases hn
    · cases h3
  | makeSlice t l c =>
    rw [ho] at h
    simp only [Option.bind_eq_some_iff] at h
    obtain ⟨el, h1, vl, h2, vc, h3, h4⟩ := h
    split at h4
    · split at h4
      · cases h4; cases hn
      · cases h4
    · cases h4
  | slice t x l u m =>
    rw [ho] at h
    simp only [Option.bind_eq_some_iff] at h ⊢
    obtain ⟨vx, h1, h2⟩ := h
    exact ⟨vx, h1, by simp only [sliceA_ag (ag x (by simp [ho, looksH]) vx h1)]; exact h2⟩
  | nilCheck x =>
    rw [ho] at h
    simp only [Option.bind_eq_some_iff] at h ⊢
    obtain ⟨vx, h1, h2⟩ := h
    refine ⟨vx, h1, ?_⟩
    have hag := ag x (by simp [ho, looksH]) vx h1
    cases vx with
    | ptr k r c t => have hk := hag k (by simp [locH]); simp only [fresh, hk]; exact h2
    | _ => exact h2
  | convert s t x =>
    rw [ho] at h
    simp only [Option.bind_eq_some_iff] at h ⊢
    obtain ⟨vx, h1, h2⟩ := h
    exact ⟨vx, h1, by rw [convA_ag (ag x (by simp [ho, looksH]) vx h1)]; exact h2⟩
  | fieldAddr s x f =>
    rw [ho] at h
    simp only [Option.bind_eq_some_iff] at h ⊢
    obtain ⟨vx, h1, h2⟩ := h
    exact ⟨vx, h1, by rw [fieldAddrA_ag (ag x (by simp [ho, looksH]) vx h1)]; exact h2⟩
  | indexAddr t x i =>
    rw [ho] at h
    simp only [Option.bind_eq_some_iff] at h ⊢
    obtain ⟨vx, h1, vi, h2, h3⟩ := h
    exact ⟨vx, h1, vi, h2, by rw [indexAddrA_ag (ag x (by simp [ho, looksH]) vx h1)]; exact h3⟩
  | call c =>
    rw [ho] at h
    simp only [Option.bind_eq_some_iff] at h ⊢
    obtain ⟨vs, hvs, h⟩ := h
    refine ⟨vs, hvs, ?_⟩
    have agv : ∀ v ∈ vs, Ag st.hp hp' v := fun v hv => by
      obtain ⟨x, hx, hxv⟩ := args_get _ _ hvs v hv
      exact ag x (by simpa [ho, looksH] using hx) v hxv
    cases hcc : c.callee with
    | builtin b =>
      rw [hcc] at h
      simp only at h ⊢
      unfold builtinA at h ⊢
      split at h
      · simp only [lenA_ag (agv _ (List.mem_cons_self))]; exact h
      · exact h
      · simp only [Option.bind_eq_some_iff] at h ⊢
        obtain ⟨el, h1, h⟩ := h
        refine ⟨el, h1, ?_⟩
        obtain ⟨el, te⟩ := el
        simp only at h ⊢
        split at h
        · rename_i hcnd
          rw [if_pos hcnd]
          rename_i ty ty2 s x _
          cases hi : isInt T ty2 with
          | true =>
            rw [hi] at h
            simp only [cond_true] at h ⊢
            split at h
            · split at h
              · rename_i hn0
                simp only [hn0, and_self, if_true]
                exact appendA_ag h hn
              · cases h
            · cases h
          | false =>
            rw [hi] at h
            simp only [cond_false] at h ⊢
            cases hs : isSrc T ty2 with
            | false => rw [hs] at h; cases h
            | true =>
              rw [hs] at h
              simp only [cond_true, Option.bind_eq_some_iff] at h ⊢
              obtain ⟨new, h2, h⟩ := h
              exact ⟨new, by rw [rowsA_ag (agv x (by simp))]; exact h2, appendA_ag h hn⟩
        · cases h
      · simp only [Option.bind_eq_some_iff] at h ⊢
        obtain ⟨el, h1, h⟩ := h
        exact ⟨el, h1, clearA_ag h hn⟩
      · exact h
      · exact h
      · cases h
    | _ => simp [isCallFn, callFn, ho, hcc] at hc
  | _ => rw [ho] at h; exact h

end
end Go.Proofs.Ytjdciikfbinchaa.Abs
