/- The abstract machine over the translated code, and its soundness: part C. -/
import Derived.Test.YthbmlioknnhleaaAbsB
import Derived.Orders
import Derived.LoopN
import Derived.Test.YthbmlioknnhleaaChecked
import Derived.Below
import Derived.KernelRfl
/- The abstract machine: two operations of which neither looks at what the other does may be done in either order. -/
namespace Go.Proofs.Ythbmlioknnhleaa.Abs
open Go

structure Eqv (s s' : St) : Prop where
  env : ∀ t, get s'.env t = get s.env t
  lo : ∀ d, s'.lo.lookup d = s.lo.lookup d
  hp : s'.hp = s.hp
  n0 : s'.n0 = s.n0
  cl : s'.cl = s.cl
theorem Eqv.refl (s : St) : Eqv s s := ⟨fun _ => rfl, fun _ => rfl, rfl, rfl, rfl⟩
theorem Eqv.symm {s s' : St} (h : Eqv s s') : Eqv s' s := ⟨fun t => (h.env t).symm, fun d => (h.lo d).symm, h.hp.symm, h.n0.symm, h.cl.symm⟩
theorem Eqv.trans {a b c : St} (h : Eqv a b) (k : Eqv b c) : Eqv a c := ⟨fun t => (k.env t).trans (h.env t), fun d => (k.lo d).trans (h.lo d), k.hp.trans h.hp, k.n0.trans h.n0, k.cl.trans h.cl⟩

theorem lookup_put' {d t : Nat} {v : AV} {l : List (Nat × AV)} : ((d, v) :: del d l).lookup t = if t = d then some v else l.lookup t := by
  have hd : ∀ l : List (Nat × AV), (del d l).lookup t = if t = d then none else l.lookup t := by
    intro l
    induction l with
    | nil => simp [del]
    | cons p l ih =>
      obtain ⟨s, v⟩ := p
      simp only [del]
      by_cases hs : s = d
      · subst hs
        simp only [BEq.rfl, cond_true, ih]
        by_cases ht : t = s
        · simp [ht]
        · have : (t == s) = false := by simpa using ht
          simp [ht, List.lookup_cons, this]
      · have h1 : (s == d) = false := by simpa using hs
        simp only [h1, cond_false, List.lookup_cons]
        by_cases ht : t = s
        · subst ht; simp [hs]
        · have : (t == s) = false := by simpa using ht
          simp [this, ih]
  rw [List.lookup_cons]
  by_cases h : t = d
  · simp [h]
  · have : (t == d) = false := by simpa using h
    simp [h, this, hd]
theorem get_put (env : List (Nat × AV)) (d t : Nat) (v : AV) : get ((d, v) :: del d env) t = if t = d then v else get env t := by
  unfold get
  rw [lookup_put']
  split <;> rfl

theorem lookup_putL (lo : List (Nat × List AV)) (e : Option (Nat × List AV)) (d : Nat) : (putL lo e).lookup d = match e with
    | some (d', cs) => if d = d' then some cs else lo.lookup d
    | none => lo.lookup d := by
  cases e with
  | none => rfl
  | some p =>
    obtain ⟨d', cs⟩ := p
    have hd : ∀ l : List (Nat × List AV), (del d' l).lookup d = if d = d' then none else l.lookup d := by
      intro l
      induction l with
      | nil => simp [del]
      | cons p l ih =>
        obtain ⟨s, v⟩ := p
        simp only [del]
        by_cases hs : s = d'
        · subst hs
          simp only [BEq.rfl, cond_true, ih]
          by_cases ht : d = s
          · simp [ht]
          · have : (d == s) = false := by simpa using ht
            simp [ht, List.lookup_cons, this]
        · have h1 : (s == d') = false := by simpa using hs
          simp only [h1, cond_false, List.lookup_cons]
          by_cases ht : d = s
          · subst ht; simp [hs]
          · have : (d == s) = false := by simpa using ht
            simp [this, ih]
    simp only [putL, List.lookup_cons]
    by_cases h : d = d'
    · simp [h]
    · have : (d == d') = false := by simpa using h
      simp [h, this, hd]

theorem get_clr (d : Nat) (env : List (Nat × AV)) (t : Nat) : get (clr d env) t = bif isL d (get env t) then .undef else get env t := by
  unfold get clr
  induction env with
  | nil => rfl
  | cons p l ih =>
    obtain ⟨s, v⟩ := p
    simp only [List.map_cons, List.lookup_cons]
    by_cases h : t = s
    · subst h; simp
    · have : (t == s) = false := by simpa using h
      simp only [this]
      exact ih

theorem noStale_iff {dst : Option Nat} {e : Eff} {env : List (Nat × AV)} : noStale dst e env = true ↔ ∀ d, e.v = .lptr d 0 → dst = some d → ∀ t, t ≠ d → isL d (get env t) = false := by
  unfold noStale
  split
  · rename_i d d' hv
    by_cases hd : d = d'
    · subst hd
      simp only [BEq.rfl, cond_true, List.all_eq_true]
      constructor
      · intro h d1 h1 h2 t ht
        have hdd : d1 = d := by rw [hv] at h1; cases h1; rfl
        subst hdd
        by_cases hm : ∃ v, env.lookup t = some v
        · obtain ⟨v, hl⟩ := hm
          obtain ⟨v', hmem⟩ : ∃ v', (t, v') ∈ env := by
            clear h
            induction env with
            | nil => cases hl
            | cons p l ih =>
              rw [List.lookup_cons] at hl
              obtain ⟨s, u⟩ := p
              by_cases hs : t = s
              · subst hs; exact ⟨u, by simp⟩
              · have : (t == s) = false := by simpa using hs
                simp only [this] at hl
                obtain ⟨v', hm⟩ := ih hl
                exact ⟨v', by simp [hm]⟩
          have := h _ hmem
          have ht' : (t == d1) = false := by simpa using ht
          simpa [ht'] using this
        · have : env.lookup t = none := by cases hl : env.lookup t <;> simp_all
          unfold get
          rw [this]
          rfl
      · intro h p hp
        by_cases hs : p.1 = d
        · simp [hs]
        · have := h d hv rfl p.1 hs
          simp [this]
    · have : (d == d') = false := by simpa using hd
      simp only [this, cond_false, true_iff]
      intro d1 h1 h2
      rw [hv] at h1
      cases h1
      cases h2
      exact absurd rfl hd
  · rename_i h
    simp only [true_iff]
    intro d h1 h2
    exact absurd h2 (fun h2 => h d d h1 (by rw [h2]))

/-- without stale pointers, an operation sets its own slot alone -/
theorem get_app {st : St} {dst : Option Nat} {e : Eff} (hn : noStale dst e st.env = true) (t : Nat) : get (st.app dst e).env t = if dst = some t then e.v else get st.env t := by
  rw [noStale_iff] at hn
  cases dst with
  | none =>
    simp only [St.app, putE]
    split
    · simp
    · simp
  | some d =>
    simp only [St.app, putE, Option.some.injEq]
    rw [get_put]
    by_cases ht : t = d
    · simp [ht]
    · rw [if_neg ht, if_neg (Ne.symm ht)]
      split
      · rename_i d1 hv
        by_cases hd : d1 = d
        · subst hd
          simp only [BEq.rfl, cond_true, get_clr, hn d1 hv rfl t ht, cond_false]
        · have : (d1 == d) = false := by simpa using hd
          simp [this]
      · rfl

section
variable {T : Nat → Option TI} {rec : Rec} {cfg : Cfg} {ops : Array Oper}

/-- what is done at an operation, and what it looks at -/
def Does (T : Nat → Option TI) (rec : Rec) (cfg : Cfg) (ops : Array Oper) (st : St) (o : Oper) (e : Eff) (f : Foot) : Prop :=
  noStale o.dst e st.env = true ∧ ((guardA ops o st = some true ∧ eff T rec cfg o st = some e ∧ f = foot o st e) ∨ (guardA ops o st = some false ∧ e = { v := .tup [] } ∧ f = footNo o st))

theorem app_no (st : St) (d : Option Nat) : st.app d { v := .tup [] } = { st with env := putE st.env d (.tup []) } := by simp [St.app, putL]

theorem stepD_does {st s1 : St} {o : Oper} {f : Foot} (h : stepD T rec cfg ops o st = some (s1, f)) : ∃ e, Does T rec cfg ops st o e f ∧ s1 = st.app o.dst e := by
  unfold stepD at h
  simp only [Option.bind_eq_some_iff] at h
  obtain ⟨g, hg, h⟩ := h
  cases g with
  | true =>
    simp only [cond_true, Option.bind_eq_some_iff] at h
    obtain ⟨e, he, h⟩ := h
    cases hn : noStale o.dst e st.env with
    | false => rw [hn] at h; cases h
    | true => rw [hn] at h; cases h; exact ⟨e, ⟨hn, .inl ⟨hg, he, rfl⟩⟩, rfl⟩
  | false => cases h; exact ⟨{ v := .tup [] }, ⟨rfl, .inr ⟨hg, rfl, rfl⟩⟩, (app_no _ _).symm⟩

theorem does_stepA {st : St} {o : Oper} {e : Eff} {f : Foot} (h : Does T rec cfg ops st o e f) : stepA T rec cfg ops o st = some (st.app o.dst e) := by
  obtain ⟨_, ⟨hg, he, _⟩ | ⟨hg, rfl, _⟩⟩ := h
  · simp [stepA, hg, he]
  · simp [stepA, hg, app_no]

theorem tmp_of {env : List (Nat × AV)} {x : Operand} {v : AV} (h : opd env x = some v) (hv : locL v ≠ [] ∨ locH v ≠ []) : ∃ t, x = .tmp t ∧ get env t = v := by
  cases x with
  | tmp t => exact ⟨t, rfl, by simpa [opd] using h⟩
  | const k =>
    simp only [opd] at h
    unfold constAV at h
    split at h <;> cases h <;> simp [locL, locH] at hv
  | func f => simp only [opd, Option.some.injEq] at h; subst h; simp [locL, locH] at hv
  | global g => cases h

theorem mem_tmpVs {env : List (Nat × AV)} {t : Nat} : ∀ {l : List Operand}, Operand.tmp t ∈ l → get env t ∈ tmpVs env l
  | x :: l, h => by
    rcases List.mem_cons.1 h with rfl | h
    · simp [tmpVs]
    · have := mem_tmpVs (env := env) h
      cases x <;> simp [tmpVs, this]

theorem tmpVs_ag {env env' : List (Nat × AV)} : ∀ {l : List Operand}, (∀ t, Operand.tmp t ∈ l → get env' t = get env t) → tmpVs env' l = tmpVs env l
  | [], _ => rfl
  | x :: l, h => by
    have ih := tmpVs_ag (env := env) (env' := env') fun t ht => h t (List.mem_cons_of_mem x ht)
    cases x with
    | tmp t => simp only [tmpVs, ih, h t (by simp)]
    | _ => simp only [tmpVs, ih]

theorem looks_op {o : Oper} {t : Nat} (h : Operand.tmp t ∈ o.op.operands.toList) : t ∈ looks ops o := by
  unfold looks
  refine List.mem_append.2 (.inl (List.mem_filterMap.2 ⟨_, h, rfl⟩))

theorem looksH_sub {o : Op} {x : Operand} (h : x ∈ looksH o) : x ∈ o.operands.toList := by
  cases o <;> simp [looksH, Op.operands] at h ⊢ <;> first | exact h | (exact .inl h) | skip
  simp only [Call.operands, Array.mem_append]
  exact .inr h
theorem writesH_sub {o : Op} {x : Operand} (h : x ∈ writesH o) : x ∈ o.operands.toList := by
  cases o <;> simp [writesH, Op.operands] at h ⊢ <;> first | exact h | (exact .inl h) | skip
  simp only [Call.operands, Array.mem_append]
  exact .inr (by simpa using List.mem_of_mem_take h)

theorem does_ag {s s' : St} {o : Oper} {e : Eff} {f : Foot} (h : Does T rec cfg ops s o e f) (hk : ∀ t ∈ looks ops o, get s'.env t = get s.env t)
    (hl : ∀ d, Loc.lo d ∈ f.rd → s'.lo.lookup d = s.lo.lookup d) (hh : s'.hp = s.hp ∨ (f.act = false ∧ ∀ k, Loc.hp k ∈ f.rd → s'.hp[k]? = s.hp[k]?)) (hn0 : s'.n0 = s.n0)
    (hd : ∀ d, o.dst = some d → locL (get s'.env d) = locL (get s.env d)) (hs : noStale o.dst e s'.env = true) : Does T rec cfg ops s' o e f := by
  obtain ⟨_, h⟩ := h
  refine ⟨hs, ?_⟩
  have hg : guardA ops o s' = guardA ops o s := by
    unfold guardA
    cases ho : o.guard with
    | none => rfl
    | some g =>
      obtain ⟨j, want⟩ := g
      simp only
      cases hj : (ops[j]?).bind (·.dst) with
      | none => rfl
      | some d =>
        simp only [Option.bind_some]
        rw [hk d (by unfold looks; simp [ho, hj])]
  have hop : ∀ t, Operand.tmp t ∈ o.op.operands.toList → get s'.env t = get s.env t := fun t ht => hk t (looks_op ht)
  have hdl : dstL s'.env o.dst = dstL s.env o.dst := by
    cases ho : o.dst with
    | none => rfl
    | some d => exact hd d ho
  rcases h with ⟨h1, h2, rfl⟩ | ⟨h1, h2, rfl⟩
  · refine .inl ⟨by rw [hg]; exact h1, ?_, ?_⟩
    · -- the effect
      have hopd : ∀ x ∈ o.op.operands.toList, opd s'.env x = opd s.env x := fun x hx => by
        cases x with
        | tmp t => simp only [opd, hop t hx]
        | _ => rfl
      have e1 : eff T rec cfg o { s with env := s'.env, lo := s'.lo } = some e := by
        refine eff_ag1 (st := s) hopd (fun x hx d c hxv r hr => ?_) rfl rfl h2
        obtain ⟨t, rfl, ht⟩ := tmp_of hxv (.inl (by simp [locL]))
        have hm : Loc.lo d ∈ (foot o s e).rd := by
          unfold foot
          refine List.mem_append_left _ (List.mem_append_left _ (List.mem_append_left _ (List.mem_append_left _ (List.mem_flatMap.2 ⟨_, mem_tmpVs hx, by rw [ht]; simp [locL]⟩))))
        show s'.lo.lookup d = some r
        rw [hl d hm]
        exact hr
      have e2 : eff T rec cfg o { s with env := s'.env, lo := s'.lo, hp := s'.hp } = some e := by
        rcases hh with hh | ⟨hact, hag⟩
        · rw [hh]; exact e1
        · have hnone : e.hp = none := by
            unfold foot at hact
            cases he : e.hp with
            | none => rfl
            | some x => simp [he] at hact
          have hcall : isCallFn o.op = false := by
            cases hcf : isCallFn o.op with
            | false => rfl
            | true =>
              exfalso
              unfold eff at h2
              cases ho : o.op with
              | call c =>
                rw [ho] at h2
                simp only [Option.bind_eq_some_iff] at h2
                obtain ⟨vs, _, h2⟩ := h2
                have call : ∀ {f : Nat} {ws : List AV}, callA rec s.hp s.n0 f ws = some e → False := by
                  intro f ws h
                  unfold callA at h
                  cases hL : allNoL ws with
                  | false => rw [hL] at h; cases h
                  | true =>
                    rw [hL] at h
                    simp only [cond_true, Option.map_eq_some_iff] at h
                    obtain ⟨_, _, rfl⟩ := h
                    cases hnone
                split at h2
                · exact call h2
                · simp only [Option.bind_eq_some_iff] at h2
                  obtain ⟨v, _, h2⟩ := h2
                  split at h2
                  · exact call h2
                  · cases h2
                · rename_i b hb
                  simp [isCallFn, ho, callFn, hb] at hcf
                · cases h2
              | _ => simp [isCallFn, ho] at hcf
          refine eff_ag2 (st := { s with env := s'.env, lo := s'.lo }) hcall hnone (fun x hx v hv k hkk => ?_) e1
          obtain ⟨t, rfl, ht⟩ := tmp_of hv (.inr (fun h0 => by rw [h0] at hkk; cases hkk))
          refine hag k ?_
          unfold foot
          refine List.mem_append_left _ (List.mem_append_right _ (List.mem_flatMap.2 ⟨_, mem_tmpVs hx, ?_⟩))
          rw [← hop t (looksH_sub hx)]
          exact ht ▸ hkk
      have hs' : s' = { s with env := s'.env, lo := s'.lo, hp := s'.hp, cl := s'.cl } := by cases s'; cases hn0; rfl
      have e3 : eff T rec cfg o { s with env := s'.env, lo := s'.lo, hp := s'.hp, cl := s'.cl } = some e := eff_ag1 (st := { s with env := s'.env, lo := s'.lo, hp := s'.hp }) (fun _ _ => rfl) (fun _ _ _ _ _ _ h => h) rfl rfl e2
      rw [hs']
      exact e3
    · -- the foot
      have t1 : tmpVs s'.env o.op.operands.toList = tmpVs s.env o.op.operands.toList := tmpVs_ag hop
      have t2 : tmpVs s'.env (looksH o.op) = tmpVs s.env (looksH o.op) := tmpVs_ag fun t ht => hop t (looksH_sub ht)
      have t3 : tmpVs s'.env (writesH o.op) = tmpVs s.env (writesH o.op) := tmpVs_ag fun t ht => hop t (writesH_sub ht)
      unfold foot
      rw [t1, t2, t3, hdl]
      rcases hh with hh | ⟨hact, _⟩
      · rw [hh]
      · unfold foot at hact
        cases he : e.hp with
        | none => simp
        | some x => simp [he] at hact
  · refine .inr ⟨by rw [hg]; exact h1, h2, ?_⟩
    unfold footNo
    rw [hdl]

end
end Go.Proofs.Ythbmlioknnhleaa.Abs

/- The abstract machine: a region of mixed order comes to the same in every order. -/
namespace Go.Proofs.Ythbmlioknnhleaa.Abs
open Go

section
variable {T : Nat → Option TI} {rec : Rec} {cfg : Cfg} {ops : Array Oper}

structure Indep (ops : Array Oper) (x y : Oper) (fx fy : Foot) : Prop where
  dst : ∀ d, x.dst = some d → y.dst ≠ some d
  looks : ∀ d, x.dst = some d → d ∉ Abs.looks ops y
  looks' : ∀ d, y.dst = some d → d ∉ Abs.looks ops x
  act : ¬ (fx.act = true ∧ fy.act = true)
  wr : meets fx.wr fy.rd = false
  ww : meets fx.wr fy.wr = false
  rw : meets fx.rd fy.wr = false

theorem Loc.meets_comm (a b : Loc) : a.meets b = b.meets a := by
  cases a <;> cases b <;> simp [Loc.meets] <;> exact Bool.eq_iff_iff.2 ⟨fun h => by simpa using (by simpa using h : _ = _).symm, fun h => by simpa using (by simpa using h : _ = _).symm⟩
theorem meets_false {x y : List Loc} : meets x y = false ↔ ∀ a ∈ x, ∀ b ∈ y, a.meets b = false := by
  unfold meets
  simp only [List.any_eq_false, Bool.not_eq_true]
theorem meets_comm (x y : List Loc) : meets x y = meets y x := by
  cases h : meets y x with
  | false => rw [meets_false] at h ⊢; exact fun a ha b hb => by rw [Loc.meets_comm]; exact h b hb a ha
  | true =>
    cases h' : meets x y with
    | true => rfl
    | false =>
      rw [meets_false] at h'
      have : meets y x = false := meets_false.2 fun a ha b hb => by rw [Loc.meets_comm]; exact h' b hb a ha
      rw [h] at this; cases this

theorem Indep.symm {x y : Oper} {fx fy : Foot} (h : Indep ops x y fx fy) : Indep ops y x fy fx :=
  ⟨fun d hy hx => h.dst d hx hy, h.looks', h.looks, fun ⟨a, b⟩ => h.act ⟨b, a⟩, by rw [meets_comm]; exact h.rw, by rw [meets_comm]; exact h.ww, by rw [meets_comm]; exact h.wr⟩

theorem no_lo {x y : List Loc} (h : meets x y = false) {d : Nat} (hx : Loc.lo d ∈ x) (hy : Loc.lo d ∈ y) : False := by
  have := meets_false.1 h _ hx _ hy
  simp [Loc.meets] at this

theorem foot_lo {st : St} {o : Oper} {e : Eff} {f : Foot} (h : Does T rec cfg ops st o e f) {d : Nat} {cs : List AV} (hl : e.lo = some (d, cs)) : Loc.lo d ∈ f.wr := by
  obtain ⟨_, ⟨_, _, rfl⟩ | ⟨_, rfl, _⟩⟩ := h
  · unfold foot
    refine List.mem_append_left _ (List.mem_append_left _ ?_)
    rw [hl]; simp
  · cases hl
theorem foot_new {st : St} {o : Oper} {e : Eff} {f : Foot} (h : Does T rec cfg ops st o e f) {d c : Nat} (hv : e.v = .lptr d c) (hd : o.dst = some d) : Loc.lo d ∈ f.wr := by
  obtain ⟨_, ⟨_, _, rfl⟩ | ⟨_, rfl, _⟩⟩ := h
  · unfold foot
    refine List.mem_append_left _ (List.mem_append_right _ ?_)
    rw [hv, hd]; simp
  · cases hv
theorem foot_v {st : St} {o : Oper} {e : Eff} {f : Foot} (h : Does T rec cfg ops st o e f) {d c : Nat} (hv : e.v = .lptr d c) : Loc.lo d ∈ f.rd := by
  obtain ⟨_, ⟨_, _, rfl⟩ | ⟨_, rfl, _⟩⟩ := h
  · unfold foot
    refine List.mem_append_left _ (List.mem_append_left _ (List.mem_append_left _ (List.mem_append_right _ ?_)))
    rw [hv]; simp [locL]
  · cases hv
theorem foot_old {st : St} {o : Oper} {e : Eff} {f : Foot} (h : Does T rec cfg ops st o e f) {d t c : Nat} (hd : o.dst = some t) (hv : get st.env t = .lptr d c) : Loc.lo d ∈ f.rd := by
  obtain ⟨_, ⟨_, _, rfl⟩ | ⟨_, _, rfl⟩⟩ := h
  · unfold foot
    refine List.mem_append_left _ (List.mem_append_left _ (List.mem_append_right _ ?_))
    simp [dstL, hd, hv, locL]
  · simp [footNo, dstL, hd, hv, locL]
theorem foot_act {st : St} {o : Oper} {e : Eff} {f : Foot} (h : Does T rec cfg ops st o e f) : f.act = e.hp.isSome := by
  obtain ⟨_, ⟨_, _, rfl⟩ | ⟨_, rfl, rfl⟩⟩ := h
  · rfl
  · rfl

/-- the heap blocks that an operation's foot does not name are as they were -/
theorem foot_hp (hk : Keeps rec) {st : St} {o : Oper} {e : Eff} {f : Foot} (h : Does T rec cfg ops st o e f) {hp' : List Blk} (hh : e.hp = some hp') {k : Nat} (hn : ∀ l ∈ f.wr, l.meets (.hp k) = false) : hp'[k]? = st.hp[k]? := by
  obtain ⟨_, ⟨_, he, rfl⟩ | ⟨_, rfl, _⟩⟩ := h
  · rcases eff_wrote hk he hh with ⟨hc, h1, h0, h2, _⟩ | ⟨hc, S, ⟨h1, h2⟩, h3, _⟩
    · have := hn (.ge e.low) (by unfold foot; simp [hh, hc])
      simp [Loc.meets] at this
      exact h2 k (by omega)
    · have hl := hn (.ge st.hp.length) (by unfold foot; simp [hh, hc])
      simp [Loc.meets] at hl
      refine h2 k (by omega) fun hS => ?_
      obtain ⟨x, hx, v, hv, hkk⟩ := h3 k hS
      obtain ⟨t, rfl, ht⟩ := tmp_of hv (.inr (fun h0 => by rw [h0] at hkk; cases hkk))
      have := hn (.hp k) (by
        unfold foot
        refine List.mem_append_right _ ?_
        simp only [hh, hc, Option.isSome_some, cond_true, cond_false]
        exact List.mem_cons_of_mem _ (List.mem_flatMap.2 ⟨_, mem_tmpVs hx, by rw [ht]; exact hkk⟩))
      simp [Loc.meets] at this
  · cases hh

theorem app_lo (st : St) (dst : Option Nat) (e : Eff) (d : Nat) : (st.app dst e).lo.lookup d = match e.lo with
    | some (d', cs) => if d = d' then some cs else st.lo.lookup d
    | none => st.lo.lookup d := lookup_putL _ _ _

/-- an operation does the same before another as behind it -/
theorem does_move (hk : Keeps rec) {st : St} {x y : Oper} {ex ey : Eff} {fx fy : Foot} (hx : Does T rec cfg ops st x ex fx) (hi : Indep ops x y fx fy) :
    Does T rec cfg ops (st.app x.dst ex) y ey fy ↔ Does T rec cfg ops st y ey fy := by
  have g := get_app hx.1
  have gl : ∀ t ∈ looks ops y, get (st.app x.dst ex).env t = get st.env t := fun t ht => by
    rw [g, if_neg fun e => hi.looks t e ht]
  have lo : ∀ d, Loc.lo d ∈ fy.rd → (st.app x.dst ex).lo.lookup d = st.lo.lookup d := fun d hd => by
    rw [app_lo]
    split
    · rename_i d' cs hl
      rw [if_neg]
      rintro rfl
      exact no_lo hi.wr (foot_lo hx hl) hd
    · rfl
  have hp : (st.app x.dst ex).hp = st.hp ∨ (fy.act = false ∧ ∀ k, Loc.hp k ∈ fy.rd → (st.app x.dst ex).hp[k]? = st.hp[k]?) := by
    cases hh : ex.hp with
    | none => exact .inl (by simp [St.app, hh])
    | some hp' =>
      refine .inr ⟨?_, fun k hkk => ?_⟩
      · cases ha : fy.act with
        | false => rfl
        | true => exact absurd ⟨by rw [foot_act hx, hh]; rfl, ha⟩ hi.act
      · simp only [St.app, hh, Option.getD_some]
        exact foot_hp hk hx hh fun l hl => meets_false.1 hi.wr l hl _ hkk
  have dst : ∀ d, y.dst = some d → get (st.app x.dst ex).env d = get st.env d := fun d hd => by rw [g, if_neg fun e => hi.dst d e hd]
  constructor
  · intro hy
    refine does_ag hy (fun t ht => (gl t ht).symm) (fun d hd => (lo d hd).symm) (hp.imp Eq.symm fun ⟨a, b⟩ => ⟨a, fun k hk => (b k hk).symm⟩) rfl (fun d hd => by rw [dst d hd]) ?_
    have hn := noStale_iff.1 hy.1
    refine noStale_iff.2 fun d hv hd t ht => ?_
    have := hn d hv hd t ht
    rw [g] at this
    by_cases hxt : x.dst = some t
    · cases hgt : get st.env t with
      | lptr d' c =>
        by_cases hdd : d' = d
        · subst hdd
          exact (no_lo hi.rw (foot_old hx hxt hgt) (foot_new hy hv hd)).elim
        · simp [isL, hdd]
      | _ => rfl
    · rw [if_neg hxt] at this; exact this
  · intro hy
    refine does_ag hy gl lo hp rfl (fun d hd => by rw [dst d hd]) ?_
    have hn := noStale_iff.1 hy.1
    refine noStale_iff.2 fun d hv hd t ht => ?_
    rw [g]
    by_cases hxt : x.dst = some t
    · rw [if_pos hxt]
      cases hgt : ex.v with
      | lptr d' c =>
        by_cases hdd : d' = d
        · subst hdd
          exact (no_lo hi.rw (foot_v hx hgt) (foot_new hy hv hd)).elim
        · simp [isL, hdd]
      | _ => rfl
    · rw [if_neg hxt]; exact hn d hv hd t ht

theorem swap (hk : Keeps rec) {st : St} {x y : Oper} {ex ey : Eff} {fx fy : Foot} (hx : Does T rec cfg ops st x ex fx) (hy : Does T rec cfg ops (st.app x.dst ex) y ey fy) (hi : Indep ops x y fx fy) :
    Does T rec cfg ops st y ey fy ∧ Does T rec cfg ops (st.app y.dst ey) x ex fx ∧ Eqv ((st.app x.dst ex).app y.dst ey) ((st.app y.dst ey).app x.dst ex) := by
  have h1 := (does_move hk hx hi).1 hy
  have h2 := (does_move hk h1 hi.symm).2 hx
  refine ⟨h1, h2, ⟨fun t => ?_, fun d => ?_, ?_, rfl, ?_⟩⟩
  · rw [get_app h2.1, get_app h1.1, get_app hy.1, get_app hx.1]
    by_cases a : x.dst = some t
    · have b : y.dst ≠ some t := hi.dst t a
      rw [if_pos a, if_neg b, if_pos a]
    · rw [if_neg a, if_neg a]
  · rw [app_lo, app_lo, app_lo, app_lo]
    cases hlx : ex.lo with
    | none => rfl
    | some p =>
      cases hly : ey.lo with
      | none => rfl
      | some q =>
        obtain ⟨d1, c1⟩ := p
        obtain ⟨d2, c2⟩ := q
        simp only
        by_cases a : d = d1
        · subst a
          rw [if_pos rfl]
          by_cases b : d = d2
          · subst b
            exact (no_lo hi.ww (foot_lo hx hlx) (foot_lo hy hly)).elim
          · rw [if_neg b, if_pos rfl]
        · rw [if_neg a, if_neg a]
  · cases hhx : ex.hp with
    | none => simp [St.app, hhx]
    | some p =>
      cases hhy : ey.hp with
      | none => simp [St.app, hhy]
      | some q => exact absurd ⟨by rw [foot_act hx, hhx]; rfl, by rw [foot_act hy, hhy]; rfl⟩ hi.act
  · simp only [St.app]
    cases st.cl <;> cases ex.cl <;> cases ey.cl <;> rfl

/-! ### runs -/
inductive Run (T : Nat → Option TI) (rec : Rec) (cfg : Cfg) (ops : Array Oper) : St → List (Oper × Foot) → St → Prop
  | nil (s : St) : Run T rec cfg ops s [] s
  | cons {s s' : St} {o : Oper} {e : Eff} {f : Foot} {l : List (Oper × Foot)} (h : Does T rec cfg ops s o e f) (r : Run T rec cfg ops (s.app o.dst e) l s') : Run T rec cfg ops s ((o, f) :: l) s'

theorem Eqv.stale {s s' : St} (h : Eqv s s') {dst : Option Nat} {e : Eff} (hn : noStale dst e s.env = true) : noStale dst e s'.env = true := by
  rw [noStale_iff] at hn ⊢
  exact fun d h1 h2 t ht => by rw [h.env]; exact hn d h1 h2 t ht
theorem Eqv.does {s s' : St} (h : Eqv s s') {o : Oper} {e : Eff} {f : Foot} (hd : Does T rec cfg ops s o e f) : Does T rec cfg ops s' o e f ∧ Eqv (s.app o.dst e) (s'.app o.dst e) := by
  have h2 : Does T rec cfg ops s' o e f := does_ag hd (fun t _ => h.env t) (fun d _ => h.lo d) (.inl h.hp) h.n0 (fun d _ => by rw [h.env]) (h.stale hd.1)
  refine ⟨h2, ⟨fun t => ?_, fun d => ?_, ?_, h.n0, ?_⟩⟩
  · rw [get_app h2.1, get_app hd.1, h.env]
  · rw [app_lo, app_lo, h.lo]
  · simp only [St.app, h.hp]
  · simp only [St.app, h.cl]

theorem Run.eqv {s s2 s' : St} {l : List (Oper × Foot)} (h : Run T rec cfg ops s l s') (he : Eqv s s2) : ∃ s2', Run T rec cfg ops s2 l s2' ∧ Eqv s' s2' := by
  induction h generalizing s2 with
  | nil s => exact ⟨s2, .nil _, he⟩
  | cons hd _ ih =>
    obtain ⟨h1, h2⟩ := he.does hd
    obtain ⟨s2', h3, h4⟩ := ih h2
    exact ⟨s2', .cons h1 h3, h4⟩

theorem Run.front (hk : Keeps rec) {o : Oper} {f : Foot} {B : List (Oper × Foot)} : ∀ (A : List (Oper × Foot)) {s s' : St}, Run T rec cfg ops s (A ++ (o, f) :: B) s' → (∀ a ∈ A, Indep ops a.1 o a.2 f) →
    ∃ e s'', Does T rec cfg ops s o e f ∧ Run T rec cfg ops (s.app o.dst e) (A ++ B) s'' ∧ Eqv s' s''
  | [], s, s', h, _ => by
    cases h with
    | cons hd r => exact ⟨_, s', hd, r, Eqv.refl _⟩
  | (x, fx) :: A, s, s', h, hi => by
    cases h with
    | cons hd r =>
      obtain ⟨e, s1, h1, h2, h3⟩ := Run.front hk A r fun a ha => hi a (List.mem_cons_of_mem _ ha)
      obtain ⟨w1, w2, w3⟩ := swap hk hd h1 (hi (x, fx) (by simp))
      obtain ⟨s2, h4, h5⟩ := h2.eqv w3
      exact ⟨e, s2, w1, .cons w2 h4, h3.trans h5⟩

theorem runD_run : ∀ (l : List Oper) (st st' : St) (fs : List Foot), runD T rec cfg ops l st = some (st', fs) → fs.length = l.length ∧ Run T rec cfg ops st (l.zip fs) st'
  | [], st, st', fs, h => by cases h; exact ⟨rfl, .nil _⟩
  | o :: l, st, st', fs, h => by
    simp only [runD, Option.bind_eq_some_iff, Option.map_eq_some_iff] at h
    obtain ⟨⟨s1, f1⟩, h1, ⟨s2, fs2⟩, h2, h3⟩ := h
    cases h3
    obtain ⟨e, hd, rfl⟩ := stepD_does h1
    obtain ⟨hl, hr⟩ := runD_run l _ _ _ h2
    exact ⟨by simp [hl], .cons hd hr⟩

end
end Go.Proofs.Ythbmlioknnhleaa.Abs

/- The abstract machine: a step of the model's, for a step of the machine's. -/
namespace Go.Proofs.Ythbmlioknnhleaa.Abs
open Go

/-- within one call: K slots of its own; βf, lf: the variables of the callers -/
structure Held (K : Nat) (βf : Nat → Option Nat) (lf : List (Nat × List AV)) (M : Mem) (ρ : Rho) (β : Nat → Option Nat) (st : St) (a : Act) (w : World) : Prop where
  real : ∃ lo, Real M ρ β st.hp lo w.heap ∧ (∀ d v, st.lo.lookup d = some v → lo.lookup d = some v) ∧ (∀ d, K ≤ d → lo.lookup d = lf.lookup (d - K))
  frame : ∀ d, K ≤ d → β d = βf (d - K)
  keys : ∀ d v, st.lo.lookup d = some v → d < K
  env : EnvR M ρ β st.hp st.env a.tmps
  size : K ≤ a.tmps.size
  defers : a.defers = []

/-- what holds of state and world since the call began -/
structure Ctx where
  K : Nat
  βf : Nat → Option Nat
  lf : List (Nat × List AV)
  M : Mem
  ρ : Rho
  hp : List Blk
  w : World

def Good (C : Ctx) (st : St) (a : Act) (w : World) : Prop := ∃ M ρ β, SubM C.M M ∧ Ext C.ρ C.hp ρ st.hp ∧ Held C.K C.βf C.lf M ρ β st a w ∧ Adv C.w w

section
variable {P : Program} {rec : Rec} {cfg : Cfg} {st st' : St} {o : Oper} {e : Eff} {C : Ctx} {a : Act} {w : World}

theorem eff_lo_key {T : Nat → Option TI} (h : eff T rec cfg o st = some e) {d : Nat} {cs : List AV} (hl : e.lo = some (d, cs)) : o.dst = some d ∨ ∃ v, st.lo.lookup d = some v := by
  have valN : ∀ {x : Option AV}, val x = some e → False := fun hv => by
    unfold val at hv
    simp only [Option.map_eq_some_iff] at hv
    obtain ⟨v, _, rfl⟩ := hv
    cases hl
  have var : ∀ {esc : Bool} {ty : Nat} {cs' : List AV}, varA esc st.hp o.dst ty cs' = some e → o.dst = some d := by
    intro esc ty cs' h
    unfold varA at h
    split at h
    · rename_i d' hd
      cases esc with
      | true =>
        simp only [cond_true] at h
        split at h
        · cases h; cases hl
        · cases h
      | false => cases h; cases hl; exact hd
    · cases h
  have call : ∀ {f : Nat} {ws : List AV}, callA rec st.hp st.n0 f ws = some e → False := by
    intro f ws h
    unfold callA at h
    cases hL : allNoL ws with
    | false => rw [hL] at h; cases h
    | true =>
      rw [hL] at h
      simp only [cond_true, Option.map_eq_some_iff] at h
      obtain ⟨_, _, rfl⟩ := h
      cases hl
  unfold eff at h
  cases ho : o.op with
  | alloc t =>
    rw [ho] at h
    simp only [Option.bind_eq_some_iff] at h
    obtain ⟨ti, h1, h2⟩ := h
    exact .inl (var h2)
  | box t x =>
    rw [ho] at h
    simp only [Option.bind_eq_some_iff] at h
    obtain ⟨ti, h1, v, h2, h3⟩ := h
    split at h3
    · exact .inl (var h3)
    · cases h3
  | buildSlice t n parts =>
    rw [ho] at h
    simp only [Option.bind_eq_some_iff] at h
    obtain ⟨el, h1, ps, h2, h3⟩ := h
    split at h3
    · simp only [Option.bind_eq_some_iff] at h3
      obtain ⟨rows, hr, h3⟩ := h3
      cases hv : cfg.virt.contains (o.dst.getD 0) with
      | true => rw [hv] at h3; cases h3; cases hl
      | false => rw [hv] at h3; cases h3; cases hl
    · cases h3
  | makeSlice t l c =>
    rw [ho] at h
    simp only [Option.bind_eq_some_iff] at h
    obtain ⟨el, h1, vl, h2, vc, h3, h4⟩ := h
    split at h4
    · split at h4
      · cases h4; cases hl
      · cases h4
    · cases h4
  | store t p x =>
    rw [ho] at h
    simp only [Option.bind_eq_some_iff] at h
    obtain ⟨vp, h1, vx, h2, h3⟩ := h
    unfold storeA at h3
    split at h3
    · split at h3
      · split at h3
        · split at h3
          · rename_i row hrow
            split at h3
            · cases h3; cases hl; exact .inr ⟨row, hrow⟩
            · cases h3
          · cases h3
        · split at h3
          · split at h3
            · split at h3
              · cases h3; cases hl
              · cases h3
            · cases h3
          · cases h3
        · cases h3
      · cases h3
    · cases h3
  | call c =>
    rw [ho] at h
    simp only [Option.bind_eq_some_iff] at h
    obtain ⟨vs, hvs, h⟩ := h
    split at h
    · exact (call h).elim
    · simp only [Option.bind_eq_some_iff] at h
      obtain ⟨v, hv, h⟩ := h
      split at h
      · exact (call h).elim
      · cases h
    · rename_i b hb
      unfold builtinA at h
      split at h
      · exact (valN h).elim
      · simp only [Option.map_eq_some_iff] at h
        obtain ⟨_, _, rfl⟩ := h
        cases hl
      · rename_i ty ty2 s x _
        simp only [Option.bind_eq_some_iff] at h
        obtain ⟨⟨el, te⟩, h1, h⟩ := h
        have app : ∀ {new : List (List AV)}, appendA st.hp st.n0 el te s new = some e → False := by
          intro new h
          cases s with
          | nilsl =>
            cases new with
            | nil => cases h; cases hl
            | cons r rs =>
              simp only [appendA] at h
              split at h
              · cases h; cases hl
              · cases h
          | esl =>
            cases new with
            | nil => cases h; cases hl
            | cons r rs =>
              simp only [appendA] at h
              split at h
              · cases h; cases hl
              · cases h
          | sl k r n t =>
            cases r with
            | zero =>
              simp only [appendA] at h
              split at h
              · split at h
                · split at h
                  · cases h; cases hl
                  · split at h
                    · cases h; cases hl
                    · cases h
                · cases h
              · cases h
            | succ r => cases h
          | _ => cases h
        simp only at h
        split at h
        · cases hi : isInt T ty2 with
          | true =>
            rw [hi] at h
            simp only [cond_true] at h
            split at h
            · split at h
              · exact (app h).elim
              · cases h
            · cases h
          | false =>
            rw [hi] at h
            simp only [cond_false] at h
            cases hs : isSrc T ty2 with
            | false => rw [hs] at h; cases h
            | true =>
              rw [hs] at h
              simp only [cond_true, Option.bind_eq_some_iff] at h
              obtain ⟨new, h2, h⟩ := h
              exact (app h).elim
        · cases h
      · simp only [Option.bind_eq_some_iff] at h
        obtain ⟨el, h1, h⟩ := h
        unfold clearA at h
        split at h
        · cases h; cases hl
        · cases h; cases hl
        · simp only [Option.bind_eq_some_iff] at h
          obtain ⟨b, hb, h⟩ := h
          split at h
          · cases h; cases hl
          · cases h
        · cases h
      · exact (valN h).elim
      · exact (valN h).elim
      · cases h
    · cases h
  | nilCheck x =>
    rw [ho] at h
    simp only [Option.bind_eq_some_iff] at h
    obtain ⟨vx, h1, h2⟩ := h
    split at h2
    · cases h2; cases hl
    · cases h2; cases hl
    · simp only [Option.map_eq_some_iff] at h2
      obtain ⟨_, _, rfl⟩ := h2
      cases hl
    · cases h2; cases hl
    · cases h2
  | makeFunc fn first captured =>
    rw [ho] at h
    cases fn with
    | func f =>
      simp only at h
      split at h
      · simp only [Option.bind_eq_some_iff] at h
        obtain ⟨vs, hvs, h⟩ := h
        cases hL : allNoL vs with
        | false => rw [hL] at h; cases h
        | true => rw [hL] at h; cases h; cases hl
      · cases h
    | _ => cases h
  | extract x i =>
    rw [ho] at h
    simp only [Option.bind_eq_some_iff] at h
    obtain ⟨vx, h1, h2⟩ := h
    split at h2
    · exact (valN h2).elim
    · cases h2
  | slice t x l u m =>
    rw [ho] at h
    simp only [Option.bind_eq_some_iff] at h
    obtain ⟨_, _, _, _, _, _, _, _, h⟩ := h
    exact (valN h).elim
  | pick c x y =>
    rw [ho] at h
    simp only [Option.bind_eq_some_iff] at h
    obtain ⟨_, _, _, _, _, _, h⟩ := h
    exact (valN h).elim
  | move x => rw [ho] at h; exact (valN h).elim
  | assign x => rw [ho] at h; exact (valN h).elim
  | build t ps => rw [ho] at h; simp only [Option.bind_eq_some_iff] at h; obtain ⟨_, _, h⟩ := h; exact (valN h).elim
  | load t x => rw [ho] at h; simp only [Option.bind_eq_some_iff] at h; obtain ⟨_, _, h⟩ := h; exact (valN h).elim
  | unOp p t x => rw [ho] at h; simp only [Option.bind_eq_some_iff] at h; obtain ⟨_, _, h⟩ := h; exact (valN h).elim
  | convert s t x => rw [ho] at h; simp only [Option.bind_eq_some_iff] at h; obtain ⟨_, _, h⟩ := h; exact (valN h).elim
  | fieldAddr s x f => rw [ho] at h; simp only [Option.bind_eq_some_iff] at h; obtain ⟨_, _, h⟩ := h; exact (valN h).elim
  | field s x f => rw [ho] at h; simp only [Option.bind_eq_some_iff] at h; obtain ⟨_, _, h⟩ := h; exact (valN h).elim
  | binOp p t x y z => rw [ho] at h; simp only [Option.bind_eq_some_iff] at h; obtain ⟨_, _, _, _, h⟩ := h; exact (valN h).elim
  | indexAddr t x y => rw [ho] at h; simp only [Option.bind_eq_some_iff] at h; obtain ⟨_, _, _, _, h⟩ := h; exact (valN h).elim
  | index t x y => rw [ho] at h; simp only [Option.bind_eq_some_iff] at h; obtain ⟨_, _, _, _, h⟩ := h; exact (valN h).elim
  | _ => rw [ho] at h; cases h

theorem ERel.upd {M : Mem} {ρ : Rho} {β : Nat → Option Nat} {hp : List Blk} {x : AV} {v : Value} {d g : Nat} (h : ERel M ρ β hp x v) (hx : isL d x = false) : ERel M ρ (upd β d g) hp x v := by
  rcases h with ⟨d', c, g', rfl, hg, hv⟩ | h
  · refine .inl ⟨d', c, g', rfl, ?_, hv⟩
    rw [upd_ne _ _ (by rintro rfl; simp [isL] at hx)]
    exact hg
  · exact .inr h

theorem bool_at {M : Mem} {ρ : Rho} {β : Nat → Option Nat} {hp : List Blk} {tmps : Array Value} {d : Nat} {b : Bool} (h : ERel M ρ β hp (.bool b) (tmps.getD d undef)) : tmps[d]? = some (.bool b) := by
  have h := h.bool_inv
  rw [Array.getD_eq_getD_getElem?] at h
  cases ht : tmps[d]? with
  | none => rw [ht] at h; cases h
  | some u => rw [ht] at h; simp at h; rw [h]

theorem get_app_ne {st : St} {d t : Nat} {e : Eff} (ht : t ≠ d) : (e.v = .lptr d 0 ∧ get (st.app (some d) e).env t = bif isL d (get st.env t) then .undef else get st.env t) ∨ (e.v ≠ .lptr d 0 ∧ get (st.app (some d) e).env t = get st.env t) := by
  by_cases hv : e.v = .lptr d 0
  · refine .inl ⟨hv, ?_⟩
    simp only [St.app, putE, hv, BEq.rfl, cond_true]
    rw [get_put, if_neg ht, get_clr]
  · refine .inr ⟨hv, ?_⟩
    simp only [St.app, putE]
    rw [get_put, if_neg ht]
    split
    · rename_i d1 hv1
      have : (d1 == d) = false := by simpa using fun h => hv (by rw [hv1, h])
      simp [this]
    · rfl

/-- ONE STEP. -/
theorem step_sound {ops : Array Oper} {i : Nat} {Q : Exit → Act → World → Prop} (hrec : RecSound P rec) (hi : ops[i]? = some o) (hd : ∀ d : Nat, o.dst = some d → d < C.K) (h : stepA (tiOf P) rec cfg ops o st = some st') (hG : Good C st a w) :
    wpOp P ops Q i (Good C st') a w := by
  obtain ⟨M, ρ, β, hM, hE, ⟨⟨lo, hR, hlo, hlf⟩, hfr, hkeys, henv, hsz, hdef⟩, hA⟩ := hG
  unfold stepA at h
  simp only [Option.bind_eq_some_iff] at h
  obtain ⟨g, hg, h⟩ := h
  have hw : Region.wanted o (yielded ops a.tmps) = g := by
    unfold guardA at hg
    unfold Region.wanted
    cases hgd : o.guard with
    | none => rw [hgd] at hg; cases hg; rfl
    | some p =>
      obtain ⟨j, want⟩ := p
      rw [hgd] at hg
      simp only [Option.bind_eq_some_iff] at hg
      obtain ⟨d, hd1, hg⟩ := hg
      split at hg
      · rename_i b hb
        cases hg
        have hb' := henv d
        rw [hb] at hb'
        have := bool_at hb'
        obtain ⟨oj, hoj, hdj⟩ := hd1
        unfold yielded
        simp only [hoj, Option.bind_some, hdj, this]
        cases b <;> cases want <;> rfl
      · rename_i hb
        cases hg
        have hb' := henv d
        rw [hb] at hb'
        have hv := hb'.v (fun _ _ e => by cases e)
        obtain ⟨oj, hoj, hdj⟩ := hd1
        unfold yielded
        simp only [hoj, Option.bind_some, hdj]
        rw [Array.getD_eq_getD_getElem?] at hv
        cases ht : a.tmps[d]? with
        | none => rfl
        | some u =>
          rw [ht] at hv
          cases hv
          rfl
      · cases hg
  unfold wpOp
  simp only [hi]
  cases g with
  | false =>
    rw [hw]
    simp only [cond_false, Option.some.injEq] at h
    subst h
    simp only [Bool.false_eq_true, if_false]
    refine ⟨M, ρ, β, hM, hE, ⟨⟨lo, hR, hlo, hlf⟩, hfr, hkeys, fun t => ?_, ?_, ?_⟩, hA⟩
    · cases ho : o.dst with
      | none => exact henv t
      | some d =>
        simp only [putE, Act.put]
        rw [get_put]
        by_cases ht : t = d
        · rw [if_pos ht]; subst ht; rw [Array.getD_eq_getD_getElem?, Array.getElem?_setIfInBounds_self_of_lt (Nat.lt_of_lt_of_le (hd _ ho) hsz)]; exact .inr (.tup rfl fun j x u hj => by simp at hj)
        · rw [if_neg ht, Array.getD_eq_getD_getElem?, Array.getElem?_setIfInBounds_ne (Ne.symm ht), ← Array.getD_eq_getD_getElem?]; exact henv t
    · cases o.dst <;> simp [Act.put, hsz]
    · cases o.dst <;> simp [Act.put, hdef]
  | true =>
    rw [hw]
    simp only [cond_true, Option.map_eq_some_iff] at h
    obtain ⟨e, he, rfl⟩ := h
    simp only [if_true]
    refine .inl ?_
    have he2 : eff (tiOf P) rec cfg o { st with lo := lo } = some e := eff_ag1 (st := st) (fun _ _ => rfl) (fun x _ d c _ r hr => hlo d r hr) rfl rfl he
    refine eff_sound (st := { st with lo := lo }) hrec hR henv he2 _ _ fun u w' hP => ?_
    obtain ⟨M', ρ', β', hM', hE', hR', hv', hA', hβ⟩ := hP
    have hkey : ∀ d cs, e.lo = some (d, cs) → d < C.K := fun d cs hl => by
      rcases eff_lo_key he hl with hd1 | ⟨v, hv⟩
      · exact hd d hd1
      · exact hkeys d v hv
    refine ⟨M', ρ', β', hM.trans hM', hE.trans hE', ⟨⟨putL lo e.lo, hR', fun d v hl => ?_, fun d hK => ?_⟩, fun d hK => ?_, fun d v hl => ?_, fun t => ?_, ?_, ?_⟩, hA.trans hA'⟩
    · rw [lookup_putL]
      rw [app_lo] at hl
      cases hlo' : e.lo with
      | none => rw [hlo'] at hl; exact hlo d v hl
      | some p =>
        rw [hlo'] at hl
        simp only at hl ⊢
        split
        · rename_i hdd; rw [if_pos hdd] at hl; exact hl
        · rename_i hdd; rw [if_neg hdd] at hl; exact hlo d v hl
    · rw [lookup_putL]
      cases hlo' : e.lo with
      | none => exact hlf d hK
      | some p =>
        have := hkey p.1 p.2 hlo'
        simp only
        rw [if_neg (by omega)]
        exact hlf d hK
    · rcases hβ with rfl | ⟨d', g, hd', hv, rfl⟩
      · exact hfr d hK
      · have := hd d' hd'
        rw [upd_ne _ _ (by omega)]
        exact hfr d hK
    · rw [app_lo] at hl
      cases hlo' : e.lo with
      | none => rw [hlo'] at hl; exact hkeys d v hl
      | some p =>
        rw [hlo'] at hl
        simp only at hl
        split at hl
        · rename_i hdd; rw [hdd]; exact hkey p.1 p.2 hlo'
        · exact hkeys d v hl
    · -- the slots
      have hold : ∀ t, ERel M' ρ' β (st.app o.dst e).hp (get st.env t) (a.tmps.getD t undef) := fun t => (henv t).mono hM' hE'
      cases ho : o.dst with
      | none =>
        have hβ' : β' = β := by
          rcases hβ with h | ⟨d', g, hd', _⟩
          · exact h
          · rw [ho] at hd'; cases hd'
        rw [hβ']
        have := hold t
        rw [ho] at this
        have henv' : (st.app none e).env = st.env := by
          simp only [St.app, putE]
          split <;> rfl
        rw [henv']
        exact this
      | some d =>
        have hdK := hd d ho
        simp only [Act.put]
        by_cases ht : t = d
        · subst ht
          rw [Array.getD_eq_getD_getElem?, Array.getElem?_setIfInBounds_self_of_lt (by omega)]
          have : get (st.app (some t) e).env t = e.v := by simp only [St.app, putE]; rw [get_put, if_pos rfl]
          rw [this]
          exact hv'
        · rw [Array.getD_eq_getD_getElem?, Array.getElem?_setIfInBounds_ne (Ne.symm ht), ← Array.getD_eq_getD_getElem?]
          have hold := hold t
          rw [ho] at hold
          rcases get_app_ne (st := st) (e := e) ht with ⟨hv, hget⟩ | ⟨hv, hget⟩
          · rw [hget]
            cases hL : isL d (get st.env t) with
            | true => exact .inr (.undef _)
            | false =>
              rcases hβ with rfl | ⟨d', g, hd', hv2, rfl⟩
              · exact hold
              · rw [ho] at hd'
                cases hd'
                exact hold.upd hL
          · rw [hget]
            rcases hβ with rfl | ⟨d', g, hd', hv2, rfl⟩
            · exact hold
            · rw [ho] at hd'
              cases hd'
              exact absurd hv2 hv
    · cases o.dst <;> simp [Act.put, hsz]
    · cases o.dst <;> simp [Act.put, hdef]

theorem Good.drew (h : Good C st a w) : Good C st a { w with drawn := w.drawn + 1 } := by
  obtain ⟨M, ρ, β, hM, hE, ⟨⟨lo, hR, hlo, hlf⟩, hfr, hkeys, henv, hsz, hdef⟩, hA⟩ := h
  exact ⟨M, ρ, β, hM, hE, ⟨⟨lo, hR, hlo, hlf⟩, hfr, hkeys, henv, hsz, hdef⟩, ⟨hA.os, hA.tape, hA.output, hA.size, Nat.le_succ_of_le hA.drawn⟩⟩

theorem Good.eqv {s s' : St} (he : Eqv s s') (h : Good C s a w) : Good C s' a w := by
  obtain ⟨M, ρ, β, hM, hE, ⟨⟨lo, hR, hlo, hlf⟩, hfr, hkeys, henv, hsz, hdef⟩, hA⟩ := h
  refine ⟨M, ρ, β, hM, by rw [he.hp]; exact hE, ⟨⟨lo, by rw [he.hp]; exact hR, fun d v hl => hlo d v (by rw [← he.lo]; exact hl), hlf⟩, hfr, fun d v hl => hkeys d v (by rw [← he.lo]; exact hl), fun t => by rw [he.env, he.hp]; exact henv t, hsz, hdef⟩, hA⟩

/-- a region in its own order -/
theorem ops_sound {ops : Array Oper} {Q : Exit → Act → World → Prop} (hrec : RecSound P rec) : ∀ (l : List Nat) (os : List Oper) (st st' : St) (a : Act) (w : World), (l.map fun i => ops[i]?) = os.map some → (∀ o ∈ os, ∀ d : Nat, o.dst = some d → d < C.K) →
    runOps (tiOf P) rec cfg ops os st = some st' → Good C st a w → (∀ a' w', Good C st' a' w' → Q .normal a' w') → wpOps P ops Q l a w
  | [], os, st, st', a, w, hl, _, h, hG, k => by
    cases os with
    | nil => cases h; exact k a w hG
    | cons o os => cases hl
  | i :: l, os, st, st', a, w, hl, hd, h, hG, k => by
    cases os with
    | nil => cases hl
    | cons o os =>
      simp only [List.map_cons, List.cons.injEq] at hl
      simp only [runOps, Option.bind_eq_some_iff] at h
      obtain ⟨s1, h1, h2⟩ := h
      rw [wpOps_cons]
      exact wpOp_mono (fun a' w' hG' => ops_sound hrec l os s1 st' a' w' hl.2 (fun o ho => hd o (by simp [ho])) h2 hG' k) (step_sound hrec hl.1 (hd o (by simp)) h1 hG)

end
end Go.Proofs.Ythbmlioknnhleaa.Abs

/- The abstract machine: a region, in whatever order it is done. -/
namespace Go.Proofs.Ythbmlioknnhleaa.Abs
open Go

/-! ### which operations come first -/
theorem preds_stable : ∀ (l : List Oper) (pre : List (List Nat)), ∃ r, preds l pre = pre ++ r ∧ r.length = l.length
  | [], pre => ⟨[], by simp [preds], rfl⟩
  | o :: l, pre => by
    obtain ⟨r, h, hl⟩ := preds_stable l (pre ++ [predsOf pre o])
    exact ⟨predsOf pre o :: r, by simp only [preds, h]; simp, by simp [hl]⟩

theorem getD_append_lt {l r : List (List Nat)} {i : Nat} (h : i < l.length) : (l ++ r).getD i [] = l.getD i [] := by
  simp [List.getD, List.getElem?_append_left h]

theorem preds_get : ∀ (l : List Oper) (pre : List (List Nat)) (j : Nat) (o : Oper), l[j]? = some o → backward l pre.length = true →
    ∃ q : List (List Nat), (preds l pre).getD (pre.length + j) [] = (o.after.toList.filter (Region.binds .any ·)).flatMap (fun e => e.on :: q.getD e.on []) ∧
      (∀ e ∈ o.after.toList, Region.binds .any e = true → e.on < pre.length + j) ∧ ∀ i, i < pre.length + j → (preds l pre).getD i [] = q.getD i []
  | [], pre, j, o, h, _ => by cases h
  | x :: l, pre, 0, o, h, hb => by
    simp at h
    subst h
    obtain ⟨r, hr, _⟩ := preds_stable l (pre ++ [predsOf pre x])
    refine ⟨pre, ?_, ?_, ?_⟩
    · simp only [preds, hr]
      simp [List.getD, predsOf]
    · intro e he hbe
      simp only [backward, Bool.and_eq_true, List.all_eq_true] at hb
      have := hb.1 e he
      simpa [hbe] using this
    · intro i hi
      simp only [preds, hr]
      rw [List.append_assoc, getD_append_lt (by omega)]
  | x :: l, pre, j + 1, o, h, hb => by
    simp only [backward, Bool.and_eq_true] at hb
    obtain ⟨q, h1, h2, h3⟩ := preds_get l (pre ++ [predsOf pre x]) j o (by simpa using h) (by simpa using hb.2)
    have hlen : (pre ++ [predsOf pre x]).length + j = pre.length + (j + 1) := by simp; omega
    rw [hlen] at h1 h2 h3
    exact ⟨q, h1, h2, h3⟩

section
variable {ops : Array Oper}

/-- what comes before the j-th operation, in every order -/
def pre (ops : Array Oper) (j : Nat) : List Nat := (preds ops.toList []).getD j []

theorem pre_eq {j : Nat} {o : Oper} (hb : backward ops.toList 0 = true) (ho : ops[j]? = some o) :
    (∀ e ∈ o.after.toList, Region.binds .any e = true → e.on < j) ∧ ∀ i ∈ pre ops j, ∃ e ∈ o.after.toList, Region.binds .any e = true ∧ (i = e.on ∨ i ∈ pre ops e.on) := by
  obtain ⟨q, h1, h2, h3⟩ := preds_get ops.toList [] j o (by simpa using ho) hb
  simp only [List.length_nil, Nat.zero_add] at h1 h2 h3
  refine ⟨h2, fun i hi => ?_⟩
  unfold pre at hi
  rw [h1] at hi
  obtain ⟨e, he, hie⟩ := List.mem_flatMap.1 hi
  obtain ⟨he1, he2⟩ := List.mem_filter.1 he
  refine ⟨e, he1, he2, ?_⟩
  rcases List.mem_cons.1 hie with h | h
  · exact .inl h
  · refine .inr ?_
    unfold pre
    rw [h3 e.on (h2 e he1 he2)]
    exact h

theorem free_mem {i j : Nat} (hij : i < j) (hj : j < ops.size) (hn : i ∉ pre ops j) : (i, j) ∈ free ops := by
  unfold free
  simp only [List.mem_flatMap, List.mem_range, List.mem_map, List.mem_filter]
  exact ⟨j, hj, i, ⟨hij, by simpa [pre] using hn⟩, rfl⟩

/-- what is still to do -/
def todo (ops : Array Oper) (listed : Array Bool) : List Nat := (List.range ops.size).filter fun i => !listed.getD i true
def both (ops : Array Oper) (feet : List Foot) (i : Nat) : Oper × Foot := (ops.getD i default, feet.getD i {})

theorem both_indep {feet : List Foot} (ho : orderOk ops = true) (hf : feetOk ops feet = true) {i j : Nat} (hij : i < j) (hj : j < ops.size) (hl : feet.length = ops.size) (hn : i ∉ pre ops j) :
    Indep ops (both ops feet i).1 (both ops feet j).1 (both ops feet i).2 (both ops feet j).2 := by
  have hm := free_mem hij hj hn
  simp only [orderOk, Bool.and_eq_true, List.all_eq_true] at ho
  simp only [feetOk, List.all_eq_true] at hf
  have h1 := ho.2 _ hm
  have h2 := hf _ hm
  have ei : ops[i]? = some (ops.getD i default) := by rw [Array.getD_eq_getD_getElem?, Array.getElem?_eq_getElem (by omega)]; rfl
  have ej : ops[j]? = some (ops.getD j default) := by rw [Array.getD_eq_getD_getElem?, Array.getElem?_eq_getElem hj]; rfl
  have fi : feet[i]? = some (feet.getD i {}) := by rw [List.getD_eq_getElem?_getD, List.getElem?_eq_getElem (by omega)]; rfl
  have fj : feet[j]? = some (feet.getD j {}) := by rw [List.getD_eq_getElem?_getD, List.getElem?_eq_getElem (by omega)]; rfl
  simp only [ei, ej] at h1
  simp only [fi, fj] at h2
  unfold both
  simp only
  generalize ops.getD i default = x at h1
  generalize ops.getD j default = y at h1
  generalize feet.getD i {} = fx at h2
  generalize feet.getD j {} = fy at h2
  simp only [slotsOk, Bool.and_eq_true] at h1
  obtain ⟨s1, s2⟩ := h1
  simp only [Foot.clash, Bool.not_eq_true', Bool.or_eq_false_iff, Bool.and_eq_false_iff] at h2
  obtain ⟨⟨⟨c1, c2⟩, c3⟩, c4⟩ := h2
  refine ⟨fun d hd => ?_, fun d hd => ?_, fun d hd => ?_, fun ⟨a, b⟩ => ?_, c2, c3, c4⟩
  · rw [hd] at s1
    simp only [Bool.and_eq_true] at s1
    simpa using s1.2
  · rw [hd] at s1
    simp only [Bool.and_eq_true] at s1
    simpa using s1.1
  · rw [hd] at s2
    simpa using s2
  · rcases c1 with c | c
    · rw [a] at c; cases c
    · rw [b] at c; cases c

variable {P : Program} {rec : Rec} {cfg : Cfg} {C : Ctx} {Q : Exit → Act → World → Prop}

theorem mem_ready {listed : Array Bool} {i : Nat} : i ∈ Region.ready .any ops listed ↔ i < ops.size ∧ listed.getD i true = false ∧ ∃ o, ops[i]? = some o ∧ ∀ e ∈ o.after.toList, Region.binds .any e = true → listed.getD e.on false = true := by
  unfold Region.ready
  simp only [List.mem_filter, List.mem_range, Bool.and_eq_true, Bool.not_eq_true']
  constructor
  · rintro ⟨h1, h2, h3⟩
    refine ⟨h1, h2, ?_⟩
    cases ho : ops[i]? with
    | none => rw [ho] at h3; cases h3
    | some o =>
      rw [ho] at h3
      simp only [Option.map_some, Option.getD_some, ← Array.all_toList, List.all_eq_true] at h3
      exact ⟨o, rfl, fun e he hb => by simpa [hb] using h3 e he⟩
  · rintro ⟨h1, h2, o, ho, h3⟩
    refine ⟨h1, h2, ?_⟩
    rw [ho]
    simp only [Option.map_some, Option.getD_some, ← Array.all_toList, List.all_eq_true]
    intro e he
    cases hb : Region.binds .any e with
    | false => rfl
    | true => simpa [hb] using h3 e he hb

theorem listed_set {listed : Array Bool} {i j : Nat} {d : Bool} (hi : i < listed.size) : (listed.setIfInBounds i true).getD j d = if i = j then true else listed.getD j d := by
  rw [Array.getD_eq_getD_getElem?, Array.getD_eq_getD_getElem?]
  by_cases h : i = j
  · subst h; rw [Array.getElem?_setIfInBounds_self_of_lt hi, if_pos rfl]; rfl
  · rw [Array.getElem?_setIfInBounds_ne h, if_neg h]

theorem listed_lt {listed : Array Bool} {j : Nat} (h : listed.getD j false = true) : j < listed.size := by
  rw [Array.getD_eq_getD_getElem?] at h
  cases hj : listed[j]? with
  | none => rw [hj] at h; cases h
  | some b => exact (Array.getElem?_eq_some_iff.1 hj).1
theorem listed_def {listed : Array Bool} {j : Nat} (h : j < listed.size) (d d' : Bool) : listed.getD j d = listed.getD j d' := by
  rw [Array.getD_eq_getD_getElem?, Array.getD_eq_getD_getElem?, Array.getElem?_eq_getElem h]; rfl

/-- a member of a list of numbers in their order parts it -/
theorem filter_split {p : Nat → Bool} {i : Nat} : ∀ (n : Nat), i < n → p i = true → ∃ A B, (List.range n).filter p = A ++ i :: B ∧ (∀ a ∈ A, a < i ∧ p a = true) ∧ (List.range n).filter (fun j => p j && !decide (i = j)) = A ++ B
  | 0, h, _ => by omega
  | n + 1, h, hp => by
    by_cases hin : i = n
    · subst hin
      refine ⟨(List.range i).filter p, [], by rw [List.range_succ, List.filter_append]; simp [hp], fun a ha => ?_, ?_⟩
      · obtain ⟨h1, h2⟩ := List.mem_filter.1 ha
        exact ⟨List.mem_range.1 h1, h2⟩
      · rw [List.range_succ, List.filter_append, List.append_nil]
        have : (List.range i).filter (fun j => p j && !decide (i = j)) = (List.range i).filter p := by
          refine List.filter_congr fun j hj => ?_
          have := List.mem_range.1 hj
          have : i ≠ j := by omega
          simp [this]
        rw [this]
        simp
    · obtain ⟨A, B, h1, h2, h3⟩ := filter_split n (by omega) hp
      refine ⟨A, B ++ [n].filter p, by rw [List.range_succ, List.filter_append, h1]; simp, h2, ?_⟩
      rw [List.range_succ, List.filter_append, h3]
      have : [n].filter (fun j => p j && !decide (i = j)) = [n].filter p := by
        refine List.filter_congr fun j hj => ?_
        simp at hj
        subst hj
        simp [hin]
      rw [this, List.append_assoc]

theorem any_sound (hrec : RecSound P rec) (hk : Keeps rec) {feet : List Foot} (ho : orderOk ops = true) (hf : feetOk ops feet = true) (hl : feet.length = ops.size) (hd : ∀ o ∈ ops.toList, ∀ d : Nat, o.dst = some d → d < C.K) :
    ∀ (fuel : Nat) (listed : Array Bool) (st send : St) (a : Act) (w : World), listed.size = ops.size → (todo ops listed).length ≤ fuel → (∀ j, listed.getD j false = true → ∀ i ∈ pre ops j, listed.getD i false = true) → Good C st a w →
      Run (tiOf P) rec cfg ops st ((todo ops listed).map (both ops feet)) send → (∀ s' a' w', Eqv send s' → Good C s' a' w' → Q .normal a' w') → wpAny P .any ops Q fuel listed a w := by
  have hb : backward ops.toList 0 = true := by simp only [orderOk, Bool.and_eq_true] at ho; exact ho.1
  have first : ∀ listed : Array Bool, listed.size = ops.size → Region.ready .any ops listed = [] → todo ops listed = [] := by
    intro listed hs hr
    cases ht : todo ops listed with
    | nil => rfl
    | cons i B =>
      exfalso
      have hi : i ∈ todo ops listed := by rw [ht]; simp
      obtain ⟨hi1, hi2⟩ := List.mem_filter.1 hi
      have hin := List.mem_range.1 hi1
      have hpi : (fun j => !listed.getD j true) i = true := hi2
      obtain ⟨A, B', h1, h2, _⟩ := filter_split (p := fun j => !listed.getD j true) ops.size hin hpi
      have hA : A = [] := by
        cases A with
        | nil => rfl
        | cons x A' =>
          have hx := h2 x (by simp)
          have : todo ops listed = x :: (A' ++ i :: B') := h1
          rw [ht] at this
          have hxi := (List.cons.inj this).1
          omega
      have hio : ops[i]? = some ops[i] := Array.getElem?_eq_getElem hin
      have : i ∈ Region.ready .any ops listed := by
        refine mem_ready.2 ⟨hin, by simpa using hi2, _, hio, fun e he hbe => ?_⟩
        have hlt := (pre_eq hb hio).1 e he hbe
        cases hle : listed.getD e.on false with
        | true => rfl
        | false =>
          have hmem : e.on ∈ todo ops listed := List.mem_filter.2 ⟨List.mem_range.2 (by omega), by rw [listed_def (by omega) true false, hle]; rfl⟩
          have ht' : todo ops listed = A ++ i :: B' := h1
          rw [ht', hA] at hmem
          have hsorted : List.Pairwise (· < ·) (todo ops listed) := List.Pairwise.filter _ List.pairwise_lt_range
          rw [ht', hA] at hsorted
          simp only [List.nil_append, List.pairwise_cons, List.mem_cons] at hsorted hmem
          rcases hmem with h | h
          · omega
          · have := hsorted.1 _ h; omega
      rw [hr] at this
      cases this
  intro fuel
  induction fuel with
  | zero =>
    intro listed st send a w hs ht _ hG hrun hQ
    have ht0 : todo ops listed = [] := List.eq_nil_of_length_eq_zero (by omega)
    rw [ht0] at hrun
    cases hrun
    refine ⟨?_, hQ _ a w (Eqv.refl _) hG⟩
    refine List.eq_nil_iff_forall_not_mem.2 fun i hi => ?_
    obtain ⟨h1, h2, _⟩ := mem_ready.1 hi
    have : i ∈ todo ops listed := List.mem_filter.2 ⟨List.mem_range.2 h1, by rw [h2]; rfl⟩
    rw [ht0] at this
    cases this
  | succ fuel ih =>
    intro listed st send a w hs ht hdc hG hrun hQ
    refine ⟨fun hr => ?_, fun i hi => ?_⟩
    · have ht0 := first listed hs hr
      rw [ht0] at hrun
      cases hrun
      exact hQ _ a w (Eqv.refl _) hG
    · obtain ⟨hin, hil, o, hio, hed⟩ := mem_ready.1 hi
      have hpi : (fun j => !listed.getD j true) i = true := by simp [hil]
      obtain ⟨A, B, h1, h2, h3⟩ := filter_split (p := fun j => !listed.getD j true) ops.size hin hpi
      have ht' : todo ops listed = A ++ i :: B := h1
      have hpre : ∀ j ∈ pre ops i, listed.getD j false = true := fun j hj => by
        obtain ⟨e, he, hbe, h⟩ := (pre_eq hb hio).2 j hj
        have hle := hed e he hbe
        rcases h with rfl | h
        · exact hle
        · exact hdc _ hle j h
      rw [ht', List.map_append, List.map_cons] at hrun
      obtain ⟨e, s'', hdo, hrun', hev⟩ := Run.front (o := (both ops feet i).1) (f := (both ops feet i).2) hk (A.map (both ops feet)) hrun fun x hx => by
        obtain ⟨j, hj, rfl⟩ := List.mem_map.1 hx
        obtain ⟨hji, hjp⟩ := h2 j hj
        refine both_indep ho hf hji hin hl fun hjm => ?_
        have := hpre j hjm
        have hjl : listed.getD j true = false := by simpa using hjp
        rw [listed_def (by omega) true false, this] at hjl
        cases hjl
      have hboth : (both ops feet i).1 = o := by unfold both; simp [hio]
      rw [hboth] at hdo hrun'
      have htodo : todo ops (listed.setIfInBounds i true) = A ++ B := by
        rw [← h3]
        refine List.filter_congr fun j hj => ?_
        rw [listed_set (by omega)]
        by_cases hij : i = j
        · simp [hij]
        · simp [hij]
      refine wpOp_mono (fun a' w' hG' => ih (listed.setIfInBounds i true) _ s'' a' w' (by simpa using hs) ?_ ?_ hG' ?_ fun s' a' w' he hg => hQ s' a' w' (hev.trans he) hg) (step_sound hrec hio (fun d hod => hd o (Array.mem_toList_iff.2 (Array.mem_of_getElem? hio)) d hod) (does_stepA hdo) hG)
      · rw [htodo]; rw [ht'] at ht; simp at ht ⊢; omega
      · intro j hj k hkm
        rw [listed_set (by omega)] at hj ⊢
        by_cases hik : i = k
        · rw [if_pos hik]
        · rw [if_neg hik]
          by_cases hij : i = j
          · subst hij; exact hpre k hkm
          · rw [if_neg hij] at hj; exact hdc j hj k hkm
      · rw [htodo, List.map_append]; exact hrun'

/-- A REGION. -/
theorem region_sound {id : Nat} {d : Bool} {st st' : St} {a : Act} {w : World} (hm : P.follows .mixedOrders = true) (hrec : RecSound P rec) (hk : Keeps rec) (hd : dstsOk C.K ops.toList = true) (h : region (tiOf P) rec cfg ops d st = some st') (hG : Good C st a w)
    (hQ : ∀ a' w', Good C st' a' w' → Q .normal a' w') : (Code.region id ops d).wp P Q a w := by
  have hd' : ∀ o ∈ ops.toList, ∀ d : Nat, o.dst = some d → d < C.K := fun o ho d hod => by
    simp only [dstsOk, List.all_eq_true] at hd
    have := hd o ho
    rw [hod] at this
    simpa using this
  unfold region at h
  cases d with
  | false =>
    refine wp_region (ops_sound hrec _ ops.toList st st' a w ?_ hd' h hG hQ)
    apply List.ext_getElem?
    intro i
    by_cases hi : i < ops.size
    · simp [hi]
    · simp [hi]
  | true =>
    cases ho : orderOk ops with
    | false => rw [ho] at h; cases h
    | true =>
      rw [ho] at h
      simp only [cond_true, Option.bind_eq_some_iff] at h
      obtain ⟨⟨s, fs⟩, h1, h2⟩ := h
      cases hf : feetOk ops fs with
      | false => simp [hf] at h2
      | true =>
        simp only [hf, cond_true, Option.some.injEq] at h2
        subst h2
        obtain ⟨hl, hrun⟩ := runD_run _ _ _ _ h1
        have hl' : fs.length = ops.size := by simpa using hl
        have hlst : ∀ j, (Array.replicate ops.size false).getD j false = false := fun j => by
          rw [Array.getD_eq_getD_getElem?, Array.getElem?_replicate]; split <;> rfl
        have htodo : todo ops (Array.replicate ops.size false) = List.range ops.size := by
          refine List.filter_eq_self.2 fun i hi => ?_
          have := List.mem_range.1 hi
          rw [listed_def (by simpa using this) true false, hlst]; rfl
        have hzip : (List.range ops.size).map (both ops fs) = ops.toList.zip fs := by
          refine List.ext_getElem (by simp [hl']) fun i h1 h2 => ?_
          have hi : i < ops.size := by simpa using h1
          have hi' : i < fs.length := by omega
          simp [both, hi, hi']
        refine wp_region_any hm (any_sound hrec hk ho hf hl' hd' ops.size _ st s a _ (by simp) (by rw [htodo]; simp) (fun j hj => by rw [hlst] at hj; cases hj) hG.drew (by rw [htodo, hzip]; exact hrun) fun s' a' w' he hg => hQ a' w' (hg.eqv he.symm))

end
end Go.Proofs.Ythbmlioknnhleaa.Abs

/- The abstract machine: code is sound; leaving a call. -/
namespace Go.Proofs.Ythbmlioknnhleaa.Abs
open Go

theorem pickE_get (env : List (Nat × AV)) (t : Nat) : ∀ ks, get (pickE env ks) t = get env t ∨ get (pickE env ks) t = .undef
  | [] => .inr rfl
  | k :: ks => by
    unfold pickE
    cases h : env.lookup k with
    | none => exact pickE_get env t ks
    | some v =>
      by_cases ht : t = k
      · subst ht
        refine .inl ?_
        simp [get, h]
      · have : (t == k) = false := by simpa using ht
        simp only [get, List.lookup_cons, this]
        exact pickE_get env t ks

theorem pickL_get (lo : List (Nat × List AV)) (d : Nat) (v : List AV) : ∀ ks, (pickL lo ks).lookup d = some v → lo.lookup d = some v
  | [], h => by cases h
  | k :: ks, h => by
    unfold pickL at h
    cases hk : lo.lookup k with
    | none => rw [hk] at h; exact pickL_get lo d v ks h
    | some u =>
      rw [hk] at h
      simp only [List.lookup_cons] at h
      by_cases hd : d = k
      · subst hd
        simp at h
        rw [hk, h]
      · have : (d == k) = false := by simpa using hd
        simp only [this] at h
        exact pickL_get lo d v ks h

def Ex.toExit : Ex → Exit
  | .normal => .normal
  | .exit id => .exit id
  | .ret => .ret

/-! ### another heap under the same values -/
theorem refsL_mem : ∀ {cs : List AV} {j : Nat} {x : AV}, cs[j]? = some x → ∀ k ∈ refs x, k ∈ refsL cs
  | [], j, x, h => by cases h
  | y :: cs, 0, x, h => by simp at h; subst h; intro k hk; simp [refsL, hk]
  | y :: cs, j + 1, x, h => fun k hk => by have := refsL_mem (cs := cs) (j := j) (by simpa using h) k hk; simp [refsL, this]
theorem refsR_mem : ∀ {rows : List (List AV)} {i : Nat} {row : List AV}, rows[i]? = some row → ∀ k ∈ refsL row, k ∈ refsR rows
  | [], j, x, h => by cases h
  | y :: cs, 0, x, h => by simp at h; subst h; intro k hk; simp [refsR, hk]
  | y :: cs, j + 1, x, h => fun k hk => by have := refsR_mem (rows := cs) (i := j) (by simpa using h) k hk; simp [refsR, this]

theorem VRel.loc {M : Mem} {ρ ρ' : Rho} {hp hp' : List Blk} {x : AV} {v : Value} (h : VRel M ρ hp x v) (hr : ∀ k ∈ refs x, hp'[k]? = hp[k]? ∧ ρ' k = ρ k) : VRel M ρ' hp' x v := by
  induction h with
  | undef v => exact .undef v
  | bool b => exact .bool b
  | int k n => exact .int k n
  | str s => exact .str s
  | @ptr k r c t v b l hb hl ht ho h =>
    obtain ⟨h1, h2⟩ := hr k (by simp [refs])
    exact .ptr (by rw [h1]; exact hb) (by rw [h2]; exact hl) ht ho h
  | nilptr => exact .nilptr
  | @sl k r n t v b l hb hl ht ho h =>
    obtain ⟨h1, h2⟩ := hr k (by simp [refs])
    exact .sl (by rw [h1]; exact hb) (by rw [h2]; exact hl) ht ho h
  | @ssl k r c n t v b l hb hl ht ho h =>
    obtain ⟨h1, h2⟩ := hr k (by simp [refs])
    exact .ssl (by rw [h1]; exact hb) (by rw [h2]; exact hl) ht ho h
  | vs0 sz a cap => exact .vs0 sz a cap
  | vs hg hone hn hlen hin _ ih => exact .vs hg hone hn hlen hin fun i row j x u h1 h2 h3 => ih i row j x u h1 h2 h3 fun k hk => hr k (by simp only [refs]; exact refsR_mem h1 k (refsL_mem h2 k hk))
  | vp hg hone hin _ ih => exact .vp hg hone hin fun j x u h1 h2 => ih j x u h1 h2 fun k hk => hr k (by simp only [refs]; exact refsL_mem h1 k hk)
  | vf0 sz f a cap => exact .vf0 sz f a cap
  | vf hg hn hlen hin h => exact .vf hg hn hlen hin h
  | vi _ hz ih => exact .vi (ih fun k hk => by simp [refs] at hk) hz
  | vm0 m q a cap => exact .vm0 m q a cap
  | vm hg hn hin _ ih => exact .vm hg hn hin fun i u h1 h2 => ih i u h1 h2 fun k hk => by simp [refs] at hk
  | esl a => exact .esl a
  | nilsl => exact .nilsl
  | fn hs _ ih => exact .fn hs fun j x u h1 h2 => ih j x u h1 h2 fun k hk => hr k (by simp only [refs]; exact refsL_mem h1 k hk)
  | agg hs hone _ ih => exact .agg hs hone fun j x u h1 h2 => ih j x u h1 h2 fun k hk => hr k (by simp only [refs]; exact refsL_mem h1 k hk)
  | tup hs _ ih => exact .tup hs fun j x u h1 h2 => ih j x u h1 h2 fun k hk => hr k (by simp only [refs]; exact refsL_mem h1 k hk)

theorem refsL_at : ∀ {cs : List AV} {k : Nat}, k ∈ refsL cs → ∃ (j : Nat) (x : AV), cs[j]? = some x ∧ k ∈ refs x
  | [], k, h => by simp [refsL] at h
  | x :: cs, k, h => by
    simp only [refsL, List.mem_append] at h
    rcases h with h | h
    · exact ⟨0, x, rfl, h⟩
    · obtain ⟨j, y, hj, hy⟩ := refsL_at h
      exact ⟨j + 1, y, by simpa using hj, hy⟩
theorem refsR_at : ∀ {rows : List (List AV)} {k : Nat}, k ∈ refsR rows → ∃ (i : Nat) (row : List AV), rows[i]? = some row ∧ k ∈ refsL row
  | [], k, h => by simp [refsR] at h
  | x :: cs, k, h => by
    simp only [refsR, List.mem_append] at h
    rcases h with h | h
    · exact ⟨0, x, rfl, h⟩
    · obtain ⟨j, y, hj, hy⟩ := refsR_at h
      exact ⟨j + 1, y, by simpa using hj, hy⟩

/-- what a told value names is there -/
theorem VRel.there {M : Mem} {ρ : Rho} {hp : List Blk} {x : AV} {v : Value} (h : VRel M ρ hp x v) : ∀ k ∈ refs x, ∃ b l, hp[k]? = some b ∧ ρ k = some l := by
  induction h with
  | @ptr k r c t v b l hb hl ht ho h => intro i hi; simp [refs] at hi; subst hi; exact ⟨b, l, hb, hl⟩
  | @sl k r n t v b l hb hl ht ho h => intro i hi; simp [refs] at hi; subst hi; exact ⟨b, l, hb, hl⟩
  | @ssl k r c n t v b l hb hl ht ho h => intro i hi; simp [refs] at hi; subst hi; exact ⟨b, l, hb, hl⟩
  | @vs sz rows g off cap c e f hg hone hn hlen hin _ ih =>
    intro k hk
    simp only [refs] at hk
    obtain ⟨i, row, h1, h2⟩ := refsR_at hk
    obtain ⟨j, x, h3, h4⟩ := refsL_at h2
    have hi := (List.getElem?_eq_some_iff.1 h1).1
    have hj := (List.getElem?_eq_some_iff.1 h3).1
    rw [hlen row (List.mem_of_getElem? h1)] at hj
    have hlt : off + i * sz + j < c.size := by
      have := Nat.mul_le_mul_right sz (show i + 1 ≤ rows.length by omega)
      rw [Nat.succ_mul] at this
      omega
    exact ih i row j x c[off + i * sz + j] h1 h3 (by simp [hlt]) k h4
  | @vp row q g off c e f hg hone hin _ ih =>
    intro k hk
    simp only [refs] at hk
    obtain ⟨j, x, h3, h4⟩ := refsL_at hk
    have hj := (List.getElem?_eq_some_iff.1 h3).1
    have hlt : off + j < c.size := by omega
    exact ih j x c[off + j] h3 (by simp [hlt]) k h4
  | @fn f caps c hs _ ih =>
    intro k hk
    simp only [refs] at hk
    obtain ⟨j, x, h3, h4⟩ := refsL_at hk
    have hj := (List.getElem?_eq_some_iff.1 h3).1
    have hlt : j < c.size := by omega
    exact ih j x c[j] h3 (by simp [hlt]) k h4
  | @agg cs c hs hone _ ih =>
    intro k hk
    simp only [refs] at hk
    obtain ⟨j, x, h3, h4⟩ := refsL_at hk
    have hj := (List.getElem?_eq_some_iff.1 h3).1
    have hlt : j < c.size := by omega
    exact ih j x c[j] h3 (by simp [hlt]) k h4
  | @tup cs c hs _ ih =>
    intro k hk
    simp only [refs] at hk
    obtain ⟨j, x, h3, h4⟩ := refsL_at hk
    have hj := (List.getElem?_eq_some_iff.1 h3).1
    have hlt : j < c.size := by omega
    exact ih j x c[j] h3 (by simp [hlt]) k h4
  | _ => intro k hk; simp [refs, refsR] at hk

section
variable {M : Mem} {ρ : Rho} {β : Nat → Option Nat} {hp : List Blk} {lo : List (Nat × List AV)} {H : Array Obj}

/-- what the heap's blocks and the variables name is there -/
theorem Real.rows_there (h : Real M ρ β hp lo H) {k : Nat} {b : Blk} (hb : hp[k]? = some b) {row : List AV} (hrow : row ∈ b.rows) {i : Nat} (hi : i ∈ refsL row) : i < hp.length := by
  obtain ⟨l, c, hl, hat⟩ := h.blk k b hb
  obtain ⟨r, hr⟩ := List.mem_iff_getElem?.1 hrow
  obtain ⟨j, x, h3, h4⟩ := refsL_at hi
  have hrl := (List.getElem?_eq_some_iff.1 hr).1
  have hj := (List.getElem?_eq_some_iff.1 h3).1
  rw [hat.len row hrow] at hj
  have hlt : r * b.sz + j < c.size := by
    have := Nat.mul_le_mul_right b.sz (show r + 1 ≤ b.rows.length by omega)
    rw [Nat.succ_mul] at this
    have := hat.room
    have := hat.size
    omega
  obtain ⟨b', l', hb', _⟩ := (hat.rows r row j x c[r * b.sz + j] hr h3 (by simp [hlt])).there i h4
  exact (List.getElem?_eq_some_iff.1 hb').1
theorem Real.var_there (h : Real M ρ β hp lo H) {d g : Nat} {cs : List AV} (hd : β d = some g) (hl : lo.lookup d = some cs) {i : Nat} (hi : i ∈ refsL cs) : i < hp.length := by
  obtain ⟨c, e, hv⟩ := h.var d g cs hd hl
  obtain ⟨j, x, h3, h4⟩ := refsL_at hi
  have hj := (List.getElem?_eq_some_iff.1 h3).1
  have hlt : j < c.size := by have := hv.size; omega
  obtain ⟨b', l', hb', _⟩ := (hv.cells j x c[j] h3 (by simp [hlt])).there i h4
  exact (List.getElem?_eq_some_iff.1 hb').1

/-- Some of the heap's blocks, under other names. -/
theorem Real.some_of (h : Real M ρ β hp lo H) {hp2 : List Blk} {ρ2 : Rho} (hb : ∀ k b, hp2[k]? = some b → ∃ j l, hp[j]? = some b ∧ ρ j = some l ∧ ρ2 k = some l ∧ ∀ row ∈ b.rows, ∀ i ∈ refsL row, hp2[i]? = hp[i]? ∧ ρ2 i = ρ i)
    (hinj : ∀ k k' l l', ρ2 k = some l → ρ2 k' = some l' → l.blk = l'.blk → k = k') (hdom : ∀ k l, ρ2 k = some l → k < hp2.length) (hof : ∀ k l, ρ2 k = some l → ∃ j, ρ j = some l)
    (hv : ∀ d g cs, β d = some g → lo.lookup d = some cs → ∀ i ∈ refsL cs, hp2[i]? = hp[i]? ∧ ρ2 i = ρ i) : Real M ρ2 β hp2 lo H := by
  refine ⟨h.mem, fun k b hk => ?_, hinj, hdom, fun d g cs hd hl => ?_, h.vlt, h.vinj, fun d g k l hd hl => ?_⟩
  · obtain ⟨j, l, hj, hl, hl2, hrows⟩ := hb k b hk
    obtain ⟨l', c, hl', hat⟩ := h.blk j b hj
    rw [hl] at hl'
    cases hl'
    exact ⟨l, c, hl2, { hat with rows := fun i row q x u h1 h2 h3 => (hat.rows i row q x u h1 h2 h3).loc fun r hr => hrows row (List.mem_of_getElem? h1) r (refsL_mem h2 r hr) }⟩
  · obtain ⟨c, e, hva⟩ := h.var d g cs hd hl
    exact ⟨c, e, { hva with cells := fun q x u h1 h2 => (hva.cells q x u h1 h2).loc fun r hr => hv d g cs hd hl r (refsL_mem h1 r hr) }⟩
  · obtain ⟨j, hj⟩ := hof k l hl
    exact h.vdis d g j l hd hj

end
end Go.Proofs.Ythbmlioknnhleaa.Abs

/- The abstract machine: a call is sound. -/
namespace Go.Proofs.Ythbmlioknnhleaa.Abs
open Go

section
variable {P : Program} {M : Mem} {ρ : Rho} {β : Nat → Option Nat} {hp : List Blk} {lo : List (Nat × List AV)} {w : World}

/-! ### entering -/
def shiftL (K : Nat) (lo : List (Nat × List AV)) : List (Nat × List AV) := lo.map fun p => (p.1 + K, p.2)
theorem shiftL_get (K : Nat) (lo : List (Nat × List AV)) (d : Nat) : (shiftL K lo).lookup d = if K ≤ d then lo.lookup (d - K) else none := by
  induction lo with
  | nil => simp [shiftL]
  | cons p lo ih =>
    obtain ⟨i, v⟩ := p
    simp only [shiftL, List.map_cons, List.lookup_cons] at ih ⊢
    by_cases hd : K ≤ d
    · rw [if_pos hd] at ih ⊢
      by_cases hi : d - K = i
      · have h1 : (d == i + K) = true := by simp; omega
        have h2 : (d - K == i) = true := by simpa using hi
        simp only [h1, h2]
      · have h1 : (d == i + K) = false := by simp; omega
        have h2 : (d - K == i) = false := by simpa using hi
        simp only [h1, h2]
        exact ih
    · rw [if_neg hd] at ih ⊢
      have h1 : (d == i + K) = false := by simp; omega
      simp only [h1]
      exact ih

theorem zipEnv_get : ∀ (vs : List AV) (i t : Nat), get (zipEnv vs i) t = if i ≤ t ∧ t < i + vs.length then vs.getD (t - i) .undef else .undef
  | [], i, t => by
    rw [if_neg (by simp)]; rfl
  | v :: vs, i, t => by
    have ih := zipEnv_get vs (i + 1) t
    simp only [zipEnv, get, List.lookup_cons] at ih ⊢
    by_cases h : t = i
    · subst h; simp
    · have : (t == i) = false := by simpa using h
      simp only [this]
      rw [ih]
      simp only [List.length_cons]
      by_cases hc : i ≤ t ∧ t < i + (vs.length + 1)
      · rw [if_pos (by omega), if_pos hc]
        have : t - i = (t - (i + 1)) + 1 := by omega
        rw [this]
        simp
      · rw [if_neg (by omega), if_neg hc]

theorem Real.shift (h : Real M ρ β hp lo w.heap) (K : Nat) : Real M ρ (fun d => if K ≤ d then β (d - K) else none) hp (shiftL K lo) w.heap := by
  refine ⟨h.mem, h.blk, h.inj, h.dom, fun d g cs hd hl => ?_, fun d g hd => ?_, fun d d' g hd hd' => ?_, fun d g k l hd hl => ?_⟩
  · rw [shiftL_get] at hl
    split at hd
    · rename_i hk; rw [if_pos hk] at hl; exact h.var _ g cs hd hl
    · cases hd
  · split at hd
    · exact h.vlt _ g hd
    · cases hd
  · split at hd
    · split at hd'
      · have := h.vinj _ _ g hd hd'; omega
      · cases hd'
    · cases hd
  · split at hd
    · exact h.vdis _ g k l hd hl
    · cases hd

theorem Real.unshift {K : Nat} {M' : Mem} {ρ' : Rho} {β2 : Nat → Option Nat} {hp' : List Blk} {lo2 : List (Nat × List AV)} {H : Array Obj} (h : Real M' ρ' β2 hp' lo2 H) (hβ : ∀ d, K ≤ d → β2 d = β (d - K)) (hl : ∀ d, K ≤ d → lo2.lookup d = lo.lookup (d - K)) : Real M' ρ' β hp' lo H := by
  have hb : ∀ d, β2 (d + K) = β d := fun d => by rw [hβ _ (by omega), Nat.add_sub_cancel]
  have hc : ∀ d, lo2.lookup (d + K) = lo.lookup d := fun d => by rw [hl _ (by omega), Nat.add_sub_cancel]
  refine ⟨h.mem, h.blk, h.inj, h.dom, fun d g cs hd hx => h.var (d + K) g cs (by rw [hb]; exact hd) (by rw [hc]; exact hx), fun d g hd => h.vlt (d + K) g (by rw [hb]; exact hd), fun d d' g hd hd' => ?_, fun d g k l hd hx => h.vdis (d + K) g k l (by rw [hb]; exact hd) hx⟩
  have := h.vinj (d + K) (d' + K) g (by rw [hb]; exact hd) (by rw [hb]; exact hd')
  omega

theorem enter_good (K n : Nat) (vs : List AV) (xs : Array Value) (hK : K = max n vs.length) (hR : Real M ρ β hp lo w.heap) (hl : xs.size = vs.length) (hx : ∀ (j : Nat) x u, vs[j]? = some x → xs[j]? = some u → VRel M ρ hp x u) :
    Good ⟨K, β, lo, M, ρ, hp, w⟩ (enterA vs hp) { tmps := xs ++ Array.replicate (n - xs.size) undef, defers := [] } w := by
  refine ⟨M, ρ, fun d => if K ≤ d then β (d - K) else none, SubM.refl _, Ext.refl _ _, ⟨⟨shiftL K lo, hR.shift K, fun d v h => (by cases h), fun d hd => by rw [shiftL_get, if_pos hd]⟩, fun d hd => by simp [hd], fun d v h => (by cases h), fun t => ?_, ?_, rfl⟩, Adv.refl _⟩
  · show ERel M ρ _ hp (get (zipEnv vs 0) t) _
    rw [zipEnv_get]
    split
    · rename_i ht
      have ht' : t < vs.length := by omega
      have hts : t < xs.size := by omega
      refine .inr (hx t _ _ (by rw [Nat.sub_zero, List.getD_eq_getElem?_getD, List.getElem?_eq_getElem ht']; rfl) ?_)
      rw [Array.getD_eq_getD_getElem?, Array.getElem?_append_left hts]
      simp [hts]
    · exact .inr (.undef _)
  · show K ≤ (xs ++ Array.replicate (n - xs.size) undef).size
    simp only [Array.size_append, Array.size_replicate]
    omega

/-! ### leaving -/
theorem resAs_rel {st : St} {tmps : Array Value} (hR : Real M ρ β st.hp lo w.heap) (hlo : ∀ d v, st.lo.lookup d = some v → lo.lookup d = some v) (hE : EnvR M ρ β st.hp st.env tmps) : ∀ (rs : List ResultVar) (vs : List AV), resAs (tiOf P) st rs = some vs → ∃ us : List Value, us.length = vs.length ∧
    (∀ g : ResultVar → Sem Value, (∀ t, g (.tmp t) = pure (tmps.getD t undef)) → (∀ a t, g (.cell a t) = do loadVar t (← asAddr (tmps.getD a undef))) → (rs.mapM g).run P w = .ok us w) ∧ ∀ (j : Nat) x u, vs[j]? = some x → us[j]? = some u → ERel M ρ β st.hp x u
  | [], vs, h => by cases h; exact ⟨[], rfl, fun g _ _ => by simp, fun j x u h => by simp at h⟩
  | r :: rs, vs, h => by
    simp only [resAs] at h
    split at h
    · rename_i v ws hv hw
      cases h
      obtain ⟨us, h1, h2, h3⟩ := resAs_rel hR hlo hE rs ws hw
      cases r with
      | cell a t =>
        obtain ⟨u, hu, hr⟩ := loadA_rel hR (loadA_lo (fun d _ _ r hr => hlo d r hr) hv) (hE a)
        obtain ⟨ad, had⟩ : ∃ ad, tmps.getD a undef = .pointer (some ad) := by
          have := hE a
          cases hg : get st.env a with
          | lptr d c => rw [hg] at this; obtain ⟨g, _, h⟩ := this.lptr_inv; exact ⟨_, h⟩
          | vp r c =>
            rw [hg] at this
            generalize hx : tmps.getD a undef = x at this
            cases this.v (fun _ _ e => by cases e)
            exact ⟨_, rfl⟩
          | ptr k r c tt =>
            rw [hg] at this
            simp only [resA, hg, loadA, rowAt, Option.bind_eq_some_iff] at hv
            obtain ⟨_, ⟨b, hb, _⟩, _⟩ := hv
            obtain ⟨hb1, hb2⟩ := fresh_some hb
            generalize hx : tmps.getD a undef = x at this
            cases this.v (fun _ _ e => by cases e) with
            | @ptr _ _ _ _ _ b' pl hb' hl hle _ hpt =>
              rw [hb1] at hb'
              cases hb'
              exact ⟨_, hpt hb2⟩
          | _ => simp only [resA, hg, loadA, rowAt, Option.bind_none] at hv; cases hv
        rw [had] at hu
        have hu' : (loadVar t ad).run P w = .ok u w := by simpa [Instr.loadAt, Instr.sureAddr] using hu
        refine ⟨u :: us, by simp [h1], fun g hg1 hg2 => ?_, fun j x u' hx hu2 => ?_⟩
        · rw [List.mapM_cons, hg2, had]
          simp only [asAddr, Sem.run_bind, Sem.run_pure, Result.andThen_ok, hu', h2 g hg1 hg2]
        · cases j with
          | zero => simp at hx hu2; subst hx; subst hu2; exact .inr hr
          | succ j => exact h3 j x u' (by simpa using hx) (by simpa using hu2)
      | tmp t =>
        simp only [resA, Option.some.injEq] at hv
        subst hv
        refine ⟨tmps.getD t undef :: us, by simp [h1], fun g hg hg2 => ?_, fun j x u hx hu => ?_⟩
        · rw [List.mapM_cons, hg]
          simp only [Sem.run_bind, Sem.run_pure, Result.andThen_ok, h2 g hg hg2]
        · cases j with
          | zero => simp at hx hu; subst hx; subst hu; rw [← Array.getD_eq_getD_getElem?]; exact hE t
          | succ j => exact h3 j x u (by simpa using hx) (by simpa using hu)
    · cases h

theorem results_rel {fn : Func} {st : St} {tmps : Array Value} {vs : List AV} (hR : Real M ρ β st.hp lo w.heap) (hlo : ∀ d v, st.lo.lookup d = some v → lo.lookup d = some v) (hE : EnvR M ρ β st.hp st.env tmps) (h : resAs (tiOf P) st fn.results.toList = some vs) (hL : allNoL vs = true) :
    ∃ u, (results fn tmps).run P w = .ok u w ∧ VRel M ρ st.hp (one vs) u := by
  obtain ⟨us, h1, h2, h3⟩ := resAs_rel (P := P) (w := w) hR hlo hE _ _ h
  refine ⟨if h : us.toArray.size = 1 then us.toArray[0] else .tuple us.toArray, ?_, ?_⟩
  · unfold results
    rw [← Array.toArray_toList (xs := fn.results)]
    simp only [List.mapM_toArray]
    rw [map_eq_pure_bind]
    simp only [Sem.run_bind, Sem.run_pure]
    rw [h2 _ (fun t => rfl) (fun a t => rfl)]
    rfl
  · have hv : ∀ (j : Nat) x u, vs[j]? = some x → us[j]? = some u → VRel M ρ st.hp x u := fun j x u hx hu => (h3 j x u hx hu).noL (allNoL_get vs hL j x hx)
    match vs, us, h1, hv with
    | [v], [u], _, hv => exact hv 0 v u rfl rfl
    | [], us, h1, hv =>
      have : us = [] := List.eq_nil_of_length_eq_zero h1
      subst this
      exact .tup rfl fun j x u hx => by simp at hx
    | v1 :: v2 :: vs, us, h1, hv =>
      rw [dif_neg (by simp at h1 ⊢; omega)]
      exact .tup (by simpa using h1) fun j x u hx hu => hv j x u hx (by simpa using hu)

/-- the names that 'ren' comes to are all the names there are, and the renamed value is told of a heap where the block has its new name -/
theorem ren_rel {ρ' : Rho} {hp' : List Blk} {k k' : Nat} (hb : hp'[k']? = hp[k]?) (hl : ρ' k' = ρ k) {v : AV} {u : Value} (h : VRel M ρ hp v u) : (∀ ks, tops v = some ks → refs v = ks ∧ ((∀ i ∈ ks, i = k) → VRel M ρ' hp' (ren k k' v) u)) := by
  have flat : ∀ {v : AV} {u : Value}, VRel M ρ hp v u → (∀ ks, flatTops (refs v) = some ks → refs v = ks ∧ VRel M ρ' hp' v u) := by
    intro v u h ks hk
    cases hr : refs v with
    | nil => rw [hr] at hk; cases hk; exact ⟨rfl, h.loc fun i hi => by rw [hr] at hi; cases hi⟩
    | cons x l => rw [hr] at hk; cases hk
  have list : ∀ {cs : List AV} {c : Array Value}, c.size = cs.length → (∀ (j : Nat) x u, cs[j]? = some x → c[j]? = some u → ∀ ks, tops x = some ks → refs x = ks ∧ ((∀ i ∈ ks, i = k) → VRel M ρ' hp' (ren k k' x) u)) →
      ∀ ks, topsL cs = some ks → refsL cs = ks ∧ ((∀ i ∈ ks, i = k) → ∀ (j : Nat) x u, (renL k k' cs)[j]? = some x → c[j]? = some u → VRel M ρ' hp' x u) ∧ (renL k k' cs).length = cs.length := by
    intro cs
    induction cs with
    | nil => intro c hs _ ks hk; cases hk; exact ⟨rfl, fun _ j x u hj => by simp [renL] at hj, rfl⟩
    | cons y cs ih =>
      intro c hs hx ks hk
      simp only [topsL] at hk
      split at hk
      · rename_i ka kb h1 h2
        cases hk
        have hpos : 0 < c.size := by rw [hs]; simp
        have hc0 : c[0]? = some c[0] := by simp
        obtain ⟨r1, r2⟩ := hx 0 y c[0] rfl hc0 ka h1
        obtain ⟨s1, s2, s3⟩ := ih (c := c.extract 1 c.size) (by simp [hs]) (fun j x u hj hu => hx (j + 1) x u (by simpa using hj) (by
          rw [Array.getElem?_extract] at hu
          split at hu
          · rw [Nat.add_comm]; exact hu
          · cases hu)) kb h2
        refine ⟨by simp [refsL, r1, s1], fun hall j x u hj hu => ?_, by simp [renL, s3]⟩
        simp only [renL] at hj
        cases j with
        | zero =>
          simp at hj
          subst hj
          rw [hc0] at hu
          cases hu
          exact r2 fun i hi => hall i (by simp [hi])
        | succ j =>
          refine s2 (fun i hi => hall i (by simp [hi])) j x u (by simpa using hj) ?_
          have hlt := (Array.getElem?_eq_some_iff.1 hu).1
          rw [Array.getElem?_extract, if_pos (by omega), Nat.add_comm]
          exact hu
      · cases hk
  induction h with
  | @sl j r n t v b l hb' hl' ht ho h =>
    intro ks hk
    simp only [tops, Option.some.injEq] at hk
    subst hk
    refine ⟨rfl, fun hall => ?_⟩
    have hj : j = k := hall j (by simp)
    subst hj
    simp only [ren, if_pos]
    exact .sl (by rw [hb]; exact hb') (by rw [hl]; exact hl') ht ho h
  | @agg cs c hs hone hx ih =>
    intro ks hk
    simp only [tops] at hk
    obtain ⟨r1, r2, r3⟩ := list hs ih ks hk
    refine ⟨by simp only [refs]; exact r1, fun hall => ?_⟩
    simp only [ren]
    exact .agg (by rw [r3]; exact hs) hone (r2 hall)
  | @tup cs c hs hx ih =>
    intro ks hk
    simp only [tops] at hk
    obtain ⟨r1, r2, r3⟩ := list hs ih ks hk
    refine ⟨by simp only [refs]; exact r1, fun hall => ?_⟩
    simp only [ren]
    exact .tup (by rw [r3]; exact hs) (r2 hall)
  | undef v => intro ks hk; obtain ⟨h1, h2⟩ := flat (.undef v) ks hk; exact ⟨h1, fun _ => h2⟩
  | bool b => intro ks hk; obtain ⟨h1, h2⟩ := flat (.bool b) ks hk; exact ⟨h1, fun _ => h2⟩
  | int i n => intro ks hk; obtain ⟨h1, h2⟩ := flat (.int i n) ks hk; exact ⟨h1, fun _ => h2⟩
  | str s => intro ks hk; obtain ⟨h1, h2⟩ := flat (.str s) ks hk; exact ⟨h1, fun _ => h2⟩
  | ptr => intro ks hk; cases hk
  | ssl => intro ks hk; cases hk
  | nilptr => intro ks hk; obtain ⟨h1, h2⟩ := flat .nilptr ks hk; exact ⟨h1, fun _ => h2⟩
  | vs0 sz a cap => intro ks hk; obtain ⟨h1, h2⟩ := flat (.vs0 sz a cap) ks hk; exact ⟨h1, fun _ => h2⟩
  | vs hg hone hn hlen hin hx ih => intro ks hk; obtain ⟨h1, h2⟩ := flat (.vs hg hone hn hlen hin hx) ks hk; exact ⟨h1, fun _ => h2⟩
  | vp hg hone hin hx ih => intro ks hk; obtain ⟨h1, h2⟩ := flat (.vp hg hone hin hx) ks hk; exact ⟨h1, fun _ => h2⟩
  | vf0 sz f a cap => intro ks hk; obtain ⟨h1, h2⟩ := flat (.vf0 sz f a cap) ks hk; exact ⟨h1, fun _ => h2⟩
  | vf hg hn hlen hin h => intro ks hk; obtain ⟨h1, h2⟩ := flat (.vf hg hn hlen hin h) ks hk; exact ⟨h1, fun _ => h2⟩
  | vi h hz _ => intro ks hk; obtain ⟨h1, h2⟩ := flat (.vi h hz) ks hk; exact ⟨h1, fun _ => h2⟩
  | vm0 m q a cap => intro ks hk; obtain ⟨h1, h2⟩ := flat (.vm0 m q a cap) ks hk; exact ⟨h1, fun _ => h2⟩
  | vm hg hn hin h _ => intro ks hk; obtain ⟨h1, h2⟩ := flat (.vm hg hn hin h) ks hk; exact ⟨h1, fun _ => h2⟩
  | esl a => intro ks hk; obtain ⟨h1, h2⟩ := flat (.esl a) ks hk; exact ⟨h1, fun _ => h2⟩
  | nilsl => intro ks hk; obtain ⟨h1, h2⟩ := flat .nilsl ks hk; exact ⟨h1, fun _ => h2⟩
  | fn hs hx ih => intro ks hk; obtain ⟨h1, h2⟩ := flat (.fn hs hx) ks hk; exact ⟨h1, fun _ => h2⟩

end
section
variable {P : Program} {rec : Rec} {cfg : Cfg} {C : Ctx}

theorem Good.norm0 {st : St} {a : Act} {w : World} (c : Code) (h : Good C st a w) : Good C (norm0 cfg c st) a w := by
  unfold Abs.norm0
  split
  · split
    · rename_i ks ls _
      obtain ⟨M, ρ, β, hM, hE, ⟨⟨lo, hR, hlo, hlf⟩, hfr, hkeys, henv, hsz, hdef⟩, hA⟩ := h
      refine ⟨M, ρ, β, hM, hE, ⟨⟨lo, hR, fun d v hl => hlo d v (pickL_get _ _ _ _ hl), hlf⟩, hfr, fun d v hl => hkeys d v (pickL_get _ _ _ _ hl), fun t => ?_, hsz, hdef⟩, hA⟩
      rcases pickE_get st.env t ks with he | he
      · simp only [he]; exact henv t
      · simp only [he]; exact .inr (.undef _)
    · exact h
  · exact h

/-- nothing that is named there lies in the callers' variables -/
def CtxOk (C : Ctx) : Prop := ∀ d g cs, C.βf d = some g → C.lf.lookup d = some cs → ∀ i ∈ refsL cs, i < C.hp.length
theorem bare_refs {row : List AV} (h : row.all bareV = true) : refsL row = [] := by
  have hz : ∀ (l : List (List AV)), (∀ row ∈ l, refsL row = []) → refsR l = [] := by
    intro l
    induction l with
    | nil => intro _; rfl
    | cons a l ih => intro hl; simp only [refsR, hl a (by simp), ih fun row hr => hl row (by simp [hr]), List.append_nil]
  have hs0 : ∀ (row : List AV), row.all scalarV = true → refsL row = [] := by
    intro row
    induction row with
    | nil => intro _; rfl
    | cons a l ih =>
      intro hl
      simp only [List.all_cons, Bool.and_eq_true] at hl
      simp only [refsL, ih hl.2, List.append_nil]
      cases a <;> first | rfl | simp [scalarV] at hl
  revert h
  induction row with
  | nil => intro _; rfl
  | cons a l ih =>
    intro hl
    simp only [List.all_cons, Bool.and_eq_true] at hl
    simp only [refsL, ih hl.2, List.append_nil]
    cases a with
    | vs sz rows =>
      simp only [bareV, List.all_eq_true] at hl
      exact hz rows fun row hr => hs0 row (by rw [List.all_eq_true]; exact hl.1 row hr)
    | _ => first | rfl | simp [bareV, scalarV] at hl
theorem renE_lookup (k : Nat) : ∀ (env : List (Nat × AV)) (t : Nat), (renE k env).lookup t = (env.lookup t).map (ren k 0)
  | [], t => rfl
  | (d, v) :: l, t => by
    simp only [renE, List.map_cons, List.lookup_cons]
    cases t == d with
    | true => rfl
    | false => exact renE_lookup k l t
theorem renLo_lookup (k : Nat) : ∀ (lo : List (Nat × List AV)) (t : Nat), (renLo k lo).lookup t = (lo.lookup t).map (renL k 0)
  | [], t => rfl
  | (d, v) :: l, t => by
    simp only [renLo, List.map_cons, List.lookup_cons]
    cases t == d with
    | true => rfl
    | false => exact renLo_lookup k l t
theorem lookup_in {α : Type} : ∀ {l : List (Nat × α)} {t : Nat} {v : α}, l.lookup t = some v → (t, v) ∈ l
  | [], t, v, h => by simp at h
  | (d, u) :: l, t, v, h => by
    rw [List.lookup_cons] at h
    by_cases e : t = d
    · subst e
      simp at h
      subst h
      simp
    · have : (t == d) = false := by simpa using e
      rw [this] at h
      exact List.mem_cons_of_mem _ (lookup_in h)
theorem Good.gcS {st : St} {a : Act} {w : World} (h : Good C st a w) (hn : st.n0 = C.hp.length) (hc : CtxOk C) : Good C (gcS st) a w := by
  unfold Abs.gcS
  by_cases h0 : st.n0 = 0
  · rw [show decide (st.n0 = 0) = true from decide_eq_true h0]
    simp only [cond_true]
    split
    · rename_i k ks h1 h2
      split
      · rename_i b hb
        cases hbr : bareRows b.rows with
        | false => exact h
        | true =>
          simp only [cond_true]
          obtain ⟨M, ρ, β, hM, hE, ⟨⟨lo, hR, hlo, hlf⟩, hfr, hkeys, henv, hsz, hdef⟩, hA⟩ := h
          have hC : C.hp = [] := List.length_eq_zero_iff.1 (by omega)
          obtain ⟨l, c0, hl0, hbl⟩ := hR.blk k b hb
          have hrow : ∀ row ∈ b.rows, refsL row = [] := fun row hr => bare_refs (by
            unfold bareRows at hbr
            rw [List.all_eq_true] at hbr
            exact hbr row hr)
          have hval : ∀ x ∈ valsOf st, (∃ ks, tops x = some ks) ∧ ∀ i ∈ refs x, i = k := fun x hx => by
            obtain ⟨j, hj⟩ := List.mem_iff_getElem?.1 hx
            exact ⟨topsL_get h2 j x hj, fun i hi => oneRef_all h1 i (refsL_mem hj i hi)⟩
          have hren : ∀ x ∈ valsOf st, ∀ u, VRel M ρ st.hp x u → VRel M (fun i => if i = 0 then some l else none) [b] (ren k 0 x) u := fun x hx u hv => by
            obtain ⟨⟨ks', hk⟩, hall⟩ := hval x hx
            have := ren_rel (k := k) (k' := 0) (ρ' := fun i => if i = 0 then some l else none) (hp' := [b]) (by rw [hb]; rfl) (by rw [hl0]; rfl) hv ks' hk
            exact this.2 fun i hi => hall i (by rw [this.1]; exact hi)
          have hloc : ∀ {x : AV} {u : Value}, refs x = [] → VRel M ρ st.hp x u → VRel M (fun i => if i = 0 then some l else none) [b] x u := fun hr hv => hv.loc fun i hi => by rw [hr] at hi; cases hi
          have henvm : ∀ {t : Nat} {v : AV}, st.env.lookup t = some v → v ∈ valsOf st := fun {t v} hv => by
            unfold valsOf
            exact List.mem_append_left _ (List.mem_map.2 ⟨(t, v), lookup_in hv, rfl⟩)
          have hlom : ∀ {d : Nat} {cs : List AV}, st.lo.lookup d = some cs → ∀ x ∈ cs, x ∈ valsOf st := fun {d cs} hv x hx => by
            unfold valsOf
            exact List.mem_append_right _ (List.mem_flatMap.2 ⟨(d, cs), lookup_in hv, hx⟩)
          have hrows : RowsIn M (fun i => if i = 0 then some l else none) [b] b.sz b.rows c0 := fun i row j x u hi hj hu => by
            refine hloc ?_ (hbl.rows i row j x u hi hj hu)
            have hm := hrow row (List.mem_of_getElem? hi)
            cases hr : refs x with
            | nil => rfl
            | cons q ql =>
              have := refsL_mem hj q (by rw [hr]; simp)
              rw [hm] at this
              cases this
          have hno : ∀ d, C.K ≤ d → (renLo k st.lo).lookup d = none := fun d hd => by
            rw [renLo_lookup]
            cases hq : st.lo.lookup d with
            | none => rfl
            | some v => have := hkeys d v hq; omega
          refine ⟨M, fun i => if i = 0 then some l else none, β, hM, (fun i b' l' hb' => by rw [hC] at hb'; simp at hb'), ⟨⟨renLo k st.lo ++ shiftL C.K C.lf, ⟨hR.mem, fun i b' hi => ?_, fun i i' l1 l2 h3 h4 _ => ?_, fun i l1 h3 => ?_, fun d g cs hd hcs => ?_, hR.vlt, hR.vinj, fun d g i l1 hd h3 => ?_⟩, fun d v hv => ?_, fun d hd => ?_⟩, hfr, fun d v hv => ?_, fun t => ?_, hsz, hdef⟩, hA⟩
          · have e : i = 0 ∧ b' = b := by
              cases i with
              | zero => simp at hi; exact ⟨rfl, hi.symm⟩
              | succ i => simp at hi
            obtain ⟨rfl, rfl⟩ := e
            exact ⟨l, c0, rfl, { hbl with rows := hrows }⟩
          · split at h3
            · split at h4
              · omega
              · cases h4
            · cases h3
          · split at h3
            · simp; omega
            · cases h3
          · rw [List.lookup_append] at hcs
            cases hq : (renLo k st.lo).lookup d with
            | some v =>
              rw [hq] at hcs
              simp only [Option.some_or, Option.some.injEq] at hcs
              subst hcs
              rw [renLo_lookup] at hq
              simp only [Option.map_eq_some_iff] at hq
              obtain ⟨cs0, hq0, rfl⟩ := hq
              obtain ⟨c', e', hva⟩ := hR.var d g cs0 hd (hlo d cs0 hq0)
              refine ⟨c', e', { hva with size := by rw [renL_len']; exact hva.size, cells := fun j x u hj hu => ?_ }⟩
              rw [renL_get'] at hj
              simp only [Option.map_eq_some_iff] at hj
              obtain ⟨x0, hx0, rfl⟩ := hj
              exact hren x0 (hlom hq0 x0 (List.mem_of_getElem? hx0)) u (hva.cells j x0 u hx0 hu)
            | none =>
              rw [hq] at hcs
              simp only [Option.none_or] at hcs
              rw [shiftL_get] at hcs
              split at hcs
              · rename_i hd'
                obtain ⟨c', e', hva⟩ := hR.var d g cs hd (by rw [hlf d hd']; exact hcs)
                refine ⟨c', e', { hva with cells := fun j x u hj hu => hloc ?_ (hva.cells j x u hj hu) }⟩
                cases hr : refs x with
                | nil => rfl
                | cons q ql =>
                  have := hc (d - C.K) g cs (by rw [← hfr d hd']; exact hd) hcs q (refsL_mem hj q (by rw [hr]; simp))
                  rw [hC] at this
                  simp at this
              · cases hcs
          · split at h3
            · cases h3; exact hR.vdis d g k l hd hl0
            · cases h3
          · rw [List.lookup_append]
            have hv' : (renLo k st.lo).lookup d = some v := hv
            rw [hv']
            rfl
          · rw [List.lookup_append, hno d hd, shiftL_get, if_pos hd]
            rfl
          · have hv' : (renLo k st.lo).lookup d = some v := hv
            rw [renLo_lookup] at hv'
            simp only [Option.map_eq_some_iff] at hv'
            obtain ⟨cs0, hq0, _⟩ := hv'
            exact hkeys d cs0 hq0
          · have hg : get (renE k st.env) t = ren k 0 (get st.env t) := by
              unfold get
              rw [renE_lookup]
              cases st.env.lookup t <;> rfl
            show ERel _ _ _ _ (get (renE k st.env) t) _
            rw [hg]
            cases hq : st.env.lookup t with
            | none =>
              have e : get st.env t = .undef := by unfold get; rw [hq]; rfl
              rw [e]
              exact .inr (.undef _)
            | some v =>
              have e : get st.env t = v := by unfold get; rw [hq]; rfl
              have he := henv t
              rw [e] at he ⊢
              rcases he with he | he
              · obtain ⟨d, c', g, rfl, h5, h6⟩ := he
                exact .inl ⟨d, c', g, rfl, h5, h6⟩
              · exact .inr (hren v (henvm hq) _ he)
      · exact h
    · exact h
  · rw [show decide (st.n0 = 0) = false from decide_eq_false h0]
    exact h
theorem Good.norm {st : St} {a : Act} {w : World} (c : Code) (h : Good C st a w) (hn : st.n0 = C.hp.length) (hc : CtxOk C) : Good C (norm cfg c st) a w := by
  unfold Abs.norm
  split
  · rename_i i _
    cases cfg.gc.contains i with
    | true => exact (h.norm0 c).gcS ((norm0_kept cfg c st).1.trans hn) hc
    | false => exact h.norm0 c
  · exact h.norm0 c

/-- CODE. -/
theorem code_sound (hm : P.follows .mixedOrders = true) (hrec : RecSound P rec) (hk : Keeps rec) (hcx : CtxOk C) (n : Nat) (c : Code) : ∀ (st : St) (x : Ex) (st' : St) (a : Act) (w : World) (Q : Exit → Act → World → Prop), st.n0 = C.hp.length → codeOk C.K c = true → evalC (tiOf P) n rec cfg c st = some (x, st') → Good C st a w →
    (∀ a' w', Good C st' a' w' → Q x.toExit a' w') → c.wp P Q a w := by
  induction c with
  | skip => intro st x st' a w Q hn _ h hG hQ; cases h; exact wp_skip (hQ a w hG)
  | exit id => intro st x st' a w Q hn _ h hG hQ; cases h; exact wp_exit (hQ a w hG)
  | ret => intro st x st' a w Q hn _ h hG hQ; cases h; exact wp_ret (hQ a w hG)
  | region id ops d =>
    intro st x st' a w Q hn hc h hG hQ
    simp only [evalC, Option.map_eq_some_iff] at h
    obtain ⟨s, hs, h⟩ := h
    cases h
    exact region_sound hm hrec hk hc hs hG hQ
  | seq c1 c2 ih1 ih2 =>
    intro st x st' a w Q hn hc h hG hQ
    simp only [codeOk, Bool.and_eq_true] at hc
    simp only [evalC] at h
    refine wp_seq ?_
    cases h1 : evalC (tiOf P) n rec cfg c1 st with
    | none => rw [h1] at h; cases h
    | some p =>
      obtain ⟨y, s⟩ := p
      rw [h1] at h
      refine ih1 st y s a w _ hn hc.1 h1 hG fun a' w' hG' => ?_
      cases y with
      | normal => exact ih2 s x st' a' w' Q ((evalC_kept hk n c1 _ _ _ h1).1.trans hn) hc.2 h hG' hQ
      | exit id => cases h; exact hQ a' w' hG'
      | ret => cases h; exact hQ a' w' hG'
  | cond y c1 c2 ih1 ih2 =>
    intro st x st' a w Q hn hc h hG hQ
    simp only [codeOk, Bool.and_eq_true] at hc
    simp only [evalC] at h
    split at h
    · rename_i t ht
      have hv : a.eval y = .bool t := by
        obtain ⟨M, ρ, β, hM, hE, ⟨_, hfr, hkeys, henv, hsz, hdef⟩, hA⟩ := hG
        exact (opd_rel (a := a) ht fun t _ => henv t).bool_inv
      refine wp_cond hv ?_
      cases t with
      | true => exact ih1 st x st' a w Q hn hc.1 (by simpa using h) hG hQ
      | false => exact ih2 st x st' a w Q hn hc.2 (by simpa using h) hG hQ
    · cases h
  | block id c ih =>
    intro st x st' a w Q hn hc h hG hQ
    simp only [evalC] at h
    refine wp_block ?_
    cases h1 : evalC (tiOf P) n rec cfg c st with
    | none => rw [h1] at h; cases h
    | some p =>
      obtain ⟨y, s⟩ := p
      rw [h1] at h
      refine ih st y s a w _ hn hc h1 hG fun a' w' hG' => ?_
      cases y with
      | normal => cases h; exact hQ a' w' hG'
      | exit i =>
        simp only at h
        simp only [Ex.toExit, Exit.inBlock]
        split at h
        · rename_i hi; cases h; rw [if_pos hi]; exact hQ a' w' hG'
        · rename_i hi; cases h; rw [if_neg hi]; exact hQ a' w' hG'
      | ret => cases h; exact hQ a' w' hG'
  | loop c ih =>
    intro st x st' a w Q hn hc h hG hQ
    simp only [evalC] at h
    refine wp_loop_rounds n ?_
    have : ∀ m st a w, loopA (norm cfg c) (evalC (tiOf P) n rec cfg c) m st = some (x, st') → st.n0 = C.hp.length → Good C st a w → Code.rounds P c Q m a w := by
      intro m
      induction m with
      | zero => intro st a w h; cases h
      | succ m ihm =>
        intro st a w h hn hG
        rw [loopA] at h
        rw [rounds_succ]
        cases h1 : evalC (tiOf P) n rec cfg c (norm cfg c st) with
        | none => rw [h1] at h; cases h
        | some p =>
          obtain ⟨y, s⟩ := p
          rw [h1] at h
          refine ih _ y s a w _ ((norm_kept cfg c st).1.trans hn) hc h1 (hG.norm c hn hcx) fun a' w' hG' => ?_
          cases y with
          | normal => exact ihm s a' w' h ((evalC_kept hk n c _ _ _ h1).1.trans ((norm_kept cfg c st).1.trans hn)) hG'
          | exit i => cases h; exact hQ a' w' hG'
          | ret => cases h; exact hQ a' w' hG'
    exact this n st a w h hn hG
  | _ => intro st x st' a w Q _ _ h; cases h

end

end Go.Proofs.Ythbmlioknnhleaa.Abs

/- The abstract machine tells the truth: what it gives for a call, the call gives. -/
namespace Go.Proofs.Ythbmlioknnhleaa.Abs
open Go

section
variable {P : Program} {M M' : Mem} {ρ ρ' : Rho} {β : Nat → Option Nat} {hp : List Blk} {lo : List (Nat × List AV)} {H H' : Array Obj}

theorem out_sound {st : St} {r v : AV} {u : Value} {hp' : List Blk} {c : Nat} (hR0 : Real M ρ β hp lo H) (hE : Ext ρ hp ρ' st.hp) (hR : Real M' ρ' β st.hp lo H') (hn : st.n0 = hp.length) (hle : hp.length ≤ st.hp.length)
    (hkeep : st.cl = true → ∀ k, k < hp.length → st.hp[k]? = hp[k]?) (hv : VRel M' ρ' st.hp r u) (h : out st r = (v, hp', c)) : ∃ ρ'', Ext ρ hp ρ'' hp' ∧ Real M' ρ'' β hp' lo H' ∧ VRel M' ρ'' hp' v u := by
  unfold out at h
  cases hcl : st.cl with
  | false => rw [hcl] at h; cases h; exact ⟨ρ', hE, hR, hv⟩
  | true =>
    have hkeep := hkeep hcl
    rw [hcl, hn] at h
    simp only [cond_true] at h
    have tk : ∀ k, (st.hp.take hp.length)[k]? = if k < hp.length then st.hp[k]? else none := fun k => by rw [List.getElem?_take]
    have take : (∀ i ∈ refs r, i < hp.length) → ∃ ρ'', Ext ρ hp ρ'' (st.hp.take hp.length) ∧ Real M' ρ'' β (st.hp.take hp.length) lo H' ∧ VRel M' ρ'' (st.hp.take hp.length) r u := by
      intro hr
      have same : ∀ i, i < hp.length → (st.hp.take hp.length)[i]? = st.hp[i]? ∧ (fun i => if i < hp.length then ρ' i else none) i = ρ' i := fun i hi => ⟨by rw [tk, if_pos hi], by simp [hi]⟩
      refine ⟨fun i => if i < hp.length then ρ' i else none, fun k b l hb hl => ?_, hR.some_of (fun k b hk => ?_) (fun k k' l l' h1 h2 he => ?_) (fun k l h1 => ?_) (fun k l h1 => ?_) fun d g cs hd hl i hi => same i (hR0.var_there hd hl hi), hv.loc fun i hi => same i (hr i hi)⟩
      · have hk := (List.getElem?_eq_some_iff.1 hb).1
        obtain ⟨b', l', h1, h2, h3, h4, h5⟩ := hE k b l hb hl
        have hbb : b' = b := by rw [hkeep k hk, hb] at h1; exact (Option.some.inj h1).symm
        subst hbb
        exact ⟨b', l', by rw [tk, if_pos hk]; exact h1, by simp [hk, h2], rfl, Nat.le_refl _, fun _ => h5 rfl⟩
      · rw [tk] at hk
        split at hk
        · rename_i hlt
          obtain ⟨l, c, hl, _⟩ := hR.blk k b hk
          refine ⟨k, l, hk, hl, by simp [hlt, hl], fun row hrow i hi => same i ?_⟩
          exact hR0.rows_there (k := k) (b := b) (by rw [← hkeep k hlt]; exact hk) hrow hi
        · cases hk
      · split at h1
        · split at h2
          · exact hR.inj k k' l l' h1 h2 he
          · cases h2
        · cases h1
      · split at h1
        · rename_i hlt; rw [List.length_take]; omega
        · cases h1
      · split at h1
        · exact ⟨k, h1⟩
        · cases h1
    split at h
    · rename_i hr
      cases h
      exact take fun i hi => by rw [hr] at hi; cases hi
    · split at h
      · rename_i k ht
        split at h
        · rename_i hk0
          split at h
          · rename_i b hb
            split at h
            · rename_i hbr
              cases h
              have ap : ∀ i, (st.hp.take hp.length ++ [b])[i]? = if i < hp.length then st.hp[i]? else if i = hp.length then some b else none := fun i => by
                by_cases h1 : i < hp.length
                · rw [if_pos h1, List.getElem?_append_left (by rw [List.length_take]; omega), tk, if_pos h1]
                · rw [if_neg h1, List.getElem?_append_right (by rw [List.length_take]; omega)]
                  have : (st.hp.take hp.length).length = hp.length := by rw [List.length_take]; omega
                  rw [this]
                  by_cases h2 : i = hp.length
                  · simp [h2]
                  · rw [if_neg h2, List.getElem?_eq_none (by simp; omega)]
              have same : ∀ i, i < hp.length → (st.hp.take hp.length ++ [b])[i]? = st.hp[i]? ∧ (fun i => if i < hp.length then ρ' i else if i = hp.length then ρ' k else none) i = ρ' i := fun i hi => ⟨by rw [ap, if_pos hi], by simp [hi]⟩
              refine ⟨fun i => if i < hp.length then ρ' i else if i = hp.length then ρ' k else none, fun k' b l hb hl => ?_, hR.some_of (fun k' b' hk' => ?_) (fun k1 k2 l l' h1 h2 he => ?_) (fun k' l h1 => ?_) (fun k' l h1 => ?_) fun d g cs hd hl i hi => same i (hR0.var_there hd hl hi), ?_⟩
              · have hk := (List.getElem?_eq_some_iff.1 hb).1
                obtain ⟨b', l', h1, h2, h3, h4, h5⟩ := hE k' b l hb hl
                have hbb : b' = b := by rw [hkeep k' hk, hb] at h1; exact (Option.some.inj h1).symm
                subst hbb
                exact ⟨b', l', by rw [ap, if_pos hk]; exact h1, by simp [hk, h2], rfl, Nat.le_refl _, fun _ => h5 rfl⟩
              · rw [ap] at hk'
                split at hk'
                · rename_i hlt
                  obtain ⟨l, c, hl, _⟩ := hR.blk k' b' hk'
                  refine ⟨k', l, hk', hl, by simp [hlt, hl], fun row hrow i hi => same i ?_⟩
                  exact hR0.rows_there (k := k') (b := b') (by rw [← hkeep k' hlt]; exact hk') hrow hi
                · split at hk'
                  · rename_i hne heq
                    cases hk'
                    obtain ⟨l, c, hl, _⟩ := hR.blk k b hb
                    refine ⟨k, l, hb, hl, by simp [heq, hl], fun row hrow i hi => ?_⟩
                    obtain ⟨q, hq⟩ := List.mem_iff_getElem?.1 hrow
                    have := refsR_mem hq i hi
                    rw [hbr] at this
                    cases this
                  · cases hk'
              · split at h1
                · split at h2
                  · exact hR.inj k1 k2 l l' h1 h2 he
                  · split at h2
                    · have := hR.inj k1 k l l' h1 h2 he; omega
                    · cases h2
                · split at h1
                  · split at h2
                    · have := hR.inj k k2 l l' h1 h2 he; omega
                    · split at h2
                      · omega
                      · cases h2
                  · cases h1
              · rw [List.length_append, List.length_take]
                split at h1
                · simp; omega
                · split at h1
                  · simp; omega
                  · cases h1
              · split at h1
                · exact ⟨k', h1⟩
                · split at h1
                  · exact ⟨k, h1⟩
                  · cases h1
              · exact (ren_rel (k := k) (k' := hp.length) (by rw [ap, if_neg (Nat.lt_irrefl _), if_pos rfl, hb]) (by simp) hv [k] ht).2 (by simp)
            · cases h; exact ⟨ρ', hE, hR, hv⟩
          · cases h; exact ⟨ρ', hE, hR, hv⟩
        · rename_i hk0
          cases h
          have hrf := (ren_rel (ρ' := ρ') (hp' := st.hp) (k := k) (k' := k) rfl rfl hv [k] ht).1
          exact take fun i hi => by rw [hrf] at hi; simp at hi; omega
      · cases h; exact ⟨ρ', hE, hR, hv⟩

/-- the functions that have a body are called by that body -/
def Plain (P : Program) : Prop := ∀ (f : Nat) (fn : Func), P.funcs[f]? = some fn → fn.body.isSome = true → (fn.name == "runtime.NumGoroutine") = false

/-- CALLS. -/
theorem evalF_sound (cfg : Cfgs) (hm : P.follows .mixedOrders = true) (hpl : Plain P) (hko : Keeps cfg.ora) (hora : RecSound P cfg.ora) : ∀ n, RecSound P (evalF P cfg n)
  | 0 => fun _ _ _ _ _ _ h => by cases h
  | n + 1 => by
    intro f vs hp v hp' c h hL
    rw [evalF_succ] at h
    cases ho : cfg.ora f vs hp with
    | some y =>
      rw [ho] at h
      cases h
      exact hora f vs hp v hp' c ho hL
    | none =>
    rw [ho] at h
    simp only at h
    cases hf : P.funcs[f]? with
    | none => rw [hf] at h; cases h
    | some fn =>
      rw [hf] at h
      simp only at h
      cases hb : fn.body with
      | none => rw [hb] at h; cases h
      | some k =>
        rw [hb] at h
        simp only at h
        refine ⟨⟨fn, by first | rfl | exact hf, by rw [hb]; rfl, hpl f fn hf (by rw [hb]; rfl)⟩, fun M ρ β lo w xs hR hl hx => ?_⟩
        cases hk : codeOk (max fn.ntmps vs.length) k with
        | false => rw [hk] at h; cases h
        | true =>
          rw [hk] at h
          simp only [cond_true] at h
          have hG := enter_good (max fn.ntmps vs.length) fn.ntmps vs xs rfl hR hl hx
          have fin : ∀ {x : Ex} {st : St}, evalC (tiOf P) n (evalF P cfg n) (cfg f) k (enterA vs hp) = some (x, st) → finish (tiOf P) fn hp st = some (v, hp', c) → (x = .normal ∨ x = .ret) →
              Calls P f xs w fun e w' => ∃ u, e = .returned u ∧ ∃ M' ρ', SubM M M' ∧ Ext ρ hp ρ' hp' ∧ Real M' ρ' β hp' lo w'.heap ∧ VRel M' ρ' hp' v u ∧ Adv w w' := by
            intro x st h1 h2 hxr
            refine calls_of_wp hf hb (code_sound (C := ⟨max fn.ntmps vs.length, β, lo, M, ρ, hp, w⟩) hm (evalF_sound cfg hm hpl hko hora n) (evalF_keeps P cfg hko n) (fun d g cs hd hcs i hi => hR.var_there hd hcs hi) n k _ x st _ w _ rfl hk h1 hG fun a' w' hG' => ?_)
            obtain ⟨M', ρ', β', hM, hE, ⟨⟨lo', hR', hlo, hlf⟩, hfr, hkeys, henv, hsz, hdef⟩, hA⟩ := hG'
            obtain ⟨k1, k2⟩ := evalC_kept (evalF_keeps P cfg hko n) n k _ _ _ h1
            obtain ⟨k3, k5⟩ := k2 (Nat.le_refl _)
            unfold finish at h2
            simp only [Option.bind_eq_some_iff] at h2
            obtain ⟨rs, hrs, h2⟩ := h2
            cases hLr : allNoL rs with
            | false => rw [hLr] at h2; cases h2
            | true =>
              rw [hLr] at h2
              simp only [cond_true, Option.some.injEq] at h2
              have hn : st.n0 = hp.length := k1
              rw [outN_eq fun hc => by rw [hn]; exact take_eq (k5 hc).2] at h2
              obtain ⟨u, hu, hur⟩ := results_rel (P := P) (w := w') hR' hlo henv hrs hLr
              obtain ⟨ρ'', o1, o2, o3⟩ := out_sound hR hE (hR'.unshift hfr hlf) k1 (by have e : st.n0 = hp.length := k1; omega) (fun hc => (k5 hc).2) hur h2
              have post : a'.defers = [] ∧ ∃ v_1, (results fn a'.tmps).run P w' = .ok v_1 w' ∧ ∃ u, Ending.returned v_1 = .returned u ∧ ∃ M' ρ', SubM M M' ∧ Ext ρ hp ρ' hp' ∧ Real M' ρ' β hp' lo w'.heap ∧ VRel M' ρ' hp' v u ∧ Adv w w' :=
                ⟨hdef, u, hu, u, rfl, M', ρ'', hM, o1, o2, o3, hA⟩
              rcases hxr with rfl | rfl
              · exact post
              · exact post
          split at h
          · rename_i hs; exact fin hs h (.inl rfl)
          · rename_i hs; exact fin hs h (.inr rfl)
          · cases h

/-- THE MACHINE TELLS THE TRUTH. -/
theorem runF_calls {cfg : Cfgs} (hm : P.follows .mixedOrders = true) (hpl : Plain P) (hko : Keeps cfg.ora) (hora : RecSound P cfg.ora) {f : Nat} {vs : List AV} {v : AV} {hp' : List Blk} {c : Nat} (h : runF P cfg f vs hp = some (v, hp', c)) (hL : allNoL vs = true) {w : World} {xs : Array Value}
    (hR : Real M ρ β hp lo w.heap) (hl : xs.size = vs.length) (hx : ∀ (j : Nat) x u, vs[j]? = some x → xs[j]? = some u → VRel M ρ hp x u) :
    Calls P f xs w fun e w' => ∃ u, e = .returned u ∧ ∃ M' ρ', SubM M M' ∧ Ext ρ hp ρ' hp' ∧ Real M' ρ' β hp' lo w'.heap ∧ VRel M' ρ' hp' v u ∧ Adv w w' := by
  obtain ⟨n, hn⟩ := (runF_some P cfg).1 h
  exact (evalF_sound cfg hm hpl hko hora n f vs hp v hp' c hn hL).2 M ρ β lo w xs hR hl hx

end
end Go.Proofs.Ythbmlioknnhleaa.Abs

/- The abstract machine at a statement's law: what it gives where nothing is written, the law gives. -/
namespace Go.Proofs.Ythbmlioknnhleaa.Abs
open Go

theorem plain_of {P : Program} (h : (P.funcs.toList.all fun fn => !(fn.name == "runtime.NumGoroutine")) = true) : Plain P := by
  intro f fn hf _
  simp only [List.all_eq_true] at h
  have := h fn (Array.mem_toList_iff.2 (Array.mem_of_getElem? hf))
  simpa using this

set_option maxRecDepth 100000 in
theorem plain : Plain Try.prog := plain_of (by kernel_rfl)

/-- what lies in the memory when the law is called, and is never written -/
def mem (w : World) : Mem := fun g => w.heap[g]?

theorem real_start (w : World) : Real (mem w) (fun _ => none) (fun _ => none) [] [] w.heap :=
  ⟨fun g o h => h, fun k b h => (by simp at h), fun k k' l l' h => (by cases h), fun k l h => (by cases h), fun d g cs h => (by cases h), fun d g h => (by cases h), fun d d' g h => (by cases h), fun d g k l h => by cases h⟩

theorem law_calls {cfg : Cfgs} (hko : Keeps cfg.ora) (hora : RecSound Try.prog cfg.ora) {f : Nat} {vs : List AV} {hp' : List Blk} {c : Nat} (h : runF Try.prog cfg f vs [] = some (.bool true, hp', c)) (hL : allNoL vs = true) {w : World} {xs : Array Value} (hl : xs.size = vs.length)
    (hx : ∀ (j : Nat) x u, vs[j]? = some x → xs[j]? = some u → VRel (mem w) (fun _ => none) [] x u) : Calls Try.prog f xs w fun e w' => e = .returned (.bool true) ∧ RowKit.Below w.heap.size w w' := by
  refine (runF_calls Try.checked.mixed plain hko hora h hL (real_start w) hl hx).mono fun e w' ⟨u, he, M', ρ', hM, hE, hR, hv, hA⟩ => ⟨by rw [he, hv.bool_inv], hA.os, hA.tape, hA.output, hA.size, fun k hk => ?_⟩
  have := hR.mem k _ (hM k _ (Array.getElem?_eq_getElem hk))
  rw [this, Array.getElem?_eq_getElem hk]

end Go.Proofs.Ythbmlioknnhleaa.Abs

/- The abstract machine: a call told in an empty heap, its arguments frozen, is told in any heap. -/
namespace Go.Proofs.Ythbmlioknnhleaa.Abs
open Go

/-! ### what is handed back, in another heap -/
mutual
def shiftV (d : Nat) : AV → AV
  | .ptr k r c t => .ptr (d + k) r c t
  | .sl k r n t => .sl (d + k) r n t
  | .ssl k r c n t => .ssl (d + k) r c n t
  | .agg cs => .agg (shiftVs d cs)
  | .tup vs => .tup (shiftVs d vs)
  | v => v
def shiftVs (d : Nat) : List AV → List AV
  | [] => []
  | v :: l => shiftV d v :: shiftVs d l
end
def shiftB (d : Nat) (b : Blk) : Blk := ⟨b.e, b.sz, b.rows.map (shiftVs d)⟩

mutual
/-- no part of it lies in memory that is never written -/
def clean : AV → Bool
  | .vs _ _ | .vf _ _ _ | .vi _ _ _ _ | .vm _ _ _ | .vp _ _ | .fn _ _ => false
  | .agg cs => cleanL cs
  | .tup vs => cleanL vs
  | _ => true
def cleanL : List AV → Bool
  | [] => true
  | v :: l => clean v && cleanL l
end
def cleanB (l : List Blk) : Prop := ∀ b ∈ l, ∀ row ∈ b.rows, cleanL row = true

theorem shiftVs_get (d : Nat) : ∀ (l : List AV) (j : Nat), (shiftVs d l)[j]? = (l[j]?).map (shiftV d)
  | [], j => rfl
  | v :: l, 0 => rfl
  | v :: l, j + 1 => by simpa [shiftVs] using shiftVs_get d l j
theorem shiftVs_length (d : Nat) : ∀ (l : List AV), (shiftVs d l).length = l.length
  | [] => rfl
  | v :: l => by simp [shiftVs, shiftVs_length d l]
theorem cleanL_get : ∀ (l : List AV) (j : Nat) (x : AV), cleanL l = true → l[j]? = some x → clean x = true
  | v :: l, 0, x, h, hx => by simp [cleanL] at h hx; subst hx; exact h.1
  | v :: l, j + 1, x, h, hx => by simp [cleanL] at h hx; exact cleanL_get l j x h.2 hx

theorem shift_rel {M M2 : Mem} {ρ ρ2 : Rho} {new hp2 : List Blk} {d : Nat} (hb : ∀ (k : Nat) (b : Blk) (l : Plc), new[k]? = some b → ρ k = some l → ∃ b2, hp2[d + k]? = some b2 ∧ b2.rows.length = b.rows.length ∧ b2.sz = b.sz ∧ ρ2 (d + k) = some l)
    {x : AV} {u : Value} (h : VRel M ρ new x u) : clean x = true → VRel M2 ρ2 hp2 (shiftV d x) u := by
  induction h with
  | undef v => intro _; exact .undef v
  | bool b => intro _; exact .bool b
  | int k n => intro _; exact .int k n
  | str s => intro _; exact .str s
  | ptr hbk hl ht ho h =>
    intro _
    obtain ⟨b2, h1, h2, h3, h4⟩ := hb _ _ _ hbk hl
    exact .ptr h1 h4 (by omega) ho fun ht' => by rw [h3]; exact h (by omega)
  | nilptr => intro _; exact .nilptr
  | sl hbk hl ht ho h =>
    intro _
    obtain ⟨b2, h1, h2, h3, h4⟩ := hb _ _ _ hbk hl
    exact .sl h1 h4 (by omega) ho fun ht' => by rw [h3]; exact h (by omega)
  | ssl hbk hl ht ho h =>
    intro _
    obtain ⟨b2, h1, h2, h3, h4⟩ := hb _ _ _ hbk hl
    exact .ssl h1 h4 (by omega) ho fun ht' => by rw [h3]; exact h (by omega)
  | vs0 => intro hc; simp [clean] at hc
  | vs => intro hc; simp [clean] at hc
  | vp => intro hc; simp [clean] at hc
  | vf0 => intro hc; simp [clean] at hc
  | vf => intro hc; simp [clean] at hc
  | vi => intro hc; simp [clean] at hc
  | vm0 => intro hc; simp [clean] at hc
  | vm => intro hc; simp [clean] at hc
  | esl a => intro _; exact .esl a
  | nilsl => intro _; exact .nilsl
  | fn => intro hc; simp [clean] at hc
  | agg hs hone _ ih =>
    intro hc
    simp only [clean] at hc
    simp only [shiftV]
    refine .agg (by rw [shiftVs_length]; exact hs) hone fun j x u hx hu => ?_
    rw [shiftVs_get] at hx
    simp only [Option.map_eq_some_iff] at hx
    obtain ⟨y, hy, rfl⟩ := hx
    exact ih j y u hy hu (cleanL_get _ j y hc hy)
  | tup hs _ ih =>
    intro hc
    simp only [clean] at hc
    simp only [shiftV]
    refine .tup (by rw [shiftVs_length]; exact hs) fun j x u hx hu => ?_
    rw [shiftVs_get] at hx
    simp only [Option.map_eq_some_iff] at hx
    obtain ⟨y, hy, rfl⟩ := hx
    exact ih j y u hy hu (cleanL_get _ j y hc hy)

/-! ### arguments, frozen -/
def allKind (k : IntKind) : List AV → Bool
  | [] => true
  | .int k' _ :: l => decide (k' = k) && allKind k l
  | _ => false
/-- the kind of a type's cells, if they are whole numbers of one kind, and how many -/
def kindOf (T : Nat → Option TI) (e : Nat) : Option (IntKind × Nat) :=
  match T e with
  | some ti => match ti.zero with
    | .int k n :: l => bif allKind k l then some (k, (AV.int k n :: l).length) else none
    | _ => none
  | none => none
def numAt (row : List AV) (j : Nat) : Int := match row[j]? with
  | some (.int _ x) => x
  | _ => 0
def qOf (rows : List (List AV)) : Nat → Nat → Int := fun i j => match rows[i]? with
  | some row => numAt row j
  | none => 0
def intRows (k : IntKind) (sz : Nat) (rows : List (List AV)) : Bool := rows.all fun row => decide (row.length = sz) && allKind k row

def freeze1 (T : Nat → Option TI) (hp : List Blk) : AV → Option AV
  | .bool b => some (.bool b)
  | .int k n => some (.int k n)
  | .str s => some (.str s)
  | .nilptr => some .nilptr
  | .nilsl => some .nilsl
  | .esl => some .esl
  | .vi k sz n q => some (.vi k sz n q)
  | .vm n m q => some (.vm n m q)
  | .vf sz n f => some (.vf sz n f)
  | .vs sz rows => match refsR rows with
    | [] => some (.vs sz rows)
    | _ => none
  | .fn f caps => match refsL caps with
    | [] => some (.fn f caps)
    | _ => none
  | .sl k r n t => (fresh hp k t).bind fun b => (kindOf T b.e).bind fun (kk, sz) =>
      if b.sz = sz ∧ r + n ≤ b.rows.length ∧ intRows kk sz ((b.rows.drop r).take n) = true then some (.vi kk sz n (qOf ((b.rows.drop r).take n))) else none
  | .ssl k r c n t => (fresh hp k t).bind fun b => (kindOf T b.e).bind fun (kk, sz) => (b.rows[r]?).bind fun row =>
      if b.sz = sz ∧ c + n ≤ sz ∧ row.length = sz ∧ allKind kk row = true then some (.vi kk 1 n (fun i _ => numAt row (c + i))) else none
  | _ => none
def freezeL (T : Nat → Option TI) (hp : List Blk) : List AV → Option (List AV)
  | [] => some []
  | v :: l => (freeze1 T hp v).bind fun v' => (freezeL T hp l).map fun l' => v' :: l'
def freezeV (T : Nat → Option TI) (hp : List Blk) : AV → Option AV
  | .agg cs => (freezeL T hp cs).map .agg
  | v => freeze1 T hp v
def freezeVs (T : Nat → Option TI) (hp : List Blk) : List AV → Option (List AV)
  | [] => some []
  | v :: l => (freezeV T hp v).bind fun v' => (freezeVs T hp l).map fun l' => v' :: l'

theorem allKind_get {k : IntKind} : ∀ {l : List AV} {j : Nat} {x : AV}, allKind k l = true → l[j]? = some x → ∃ n, x = .int k n
  | [], j, x, _, h => by simp at h
  | y :: l, j, x, hk, h => by
    cases y <;> simp only [allKind, Bool.false_eq_true] at hk
    rename_i k' n
    simp only [Bool.and_eq_true, decide_eq_true_eq] at hk
    obtain ⟨rfl, hk⟩ := hk
    cases j with
    | zero => simp at h; exact ⟨n, h.symm⟩
    | succ j => exact allKind_get hk (by simpa using h)

theorem cellsFrom_get (k : IntKind) (q : Nat → Int) : ∀ (n i j : Nat), (cellsFrom k q i n)[j]? = if j < n then some (.int k (q (i + j))) else none
  | 0, i, j => by simp [cellsFrom]
  | n + 1, i, 0 => by simp [cellsFrom]
  | n + 1, i, j + 1 => by
    simp only [cellsFrom, List.getElem?_cons_succ]
    rw [cellsFrom_get k q n (i + 1) j]
    simp only [Nat.add_lt_add_iff_right, show i + 1 + j = i + (j + 1) by omega]
theorem cellsFrom_length (k : IntKind) (q : Nat → Int) : ∀ (n i : Nat), (cellsFrom k q i n).length = n
  | 0, i => rfl
  | n + 1, i => by simp [cellsFrom, cellsFrom_length k q n (i + 1)]
theorem cellsI_get (k : IntKind) (sz : Nat) (q : Nat → Int) (j : Nat) : (cellsI k sz q)[j]? = if j < sz then some (.int k (q j)) else none := by
  rw [cellsFrom_get, Nat.zero_add]

/-- rows of numbers, told by the function that they give -/
theorem cells_qOf {k : IntKind} {sz : Nat} {rows : List (List AV)} (h : intRows k sz rows = true) {i : Nat} {row : List AV} (hi : rows[i]? = some row) : cellsI k sz (qOf rows i) = row := by
  unfold intRows at h
  rw [List.all_eq_true] at h
  have h' := h row (List.mem_of_getElem? hi)
  simp only [Bool.and_eq_true, decide_eq_true_eq] at h'
  apply List.ext_getElem?
  intro j
  rw [cellsI_get]
  split
  · rename_i hj
    have hjl : j < row.length := by omega
    obtain ⟨x, hx⟩ : ∃ x, row[j]? = some x := ⟨row[j], List.getElem?_eq_getElem hjl⟩
    obtain ⟨n, rfl⟩ := allKind_get h'.2 hx
    rw [hx]
    simp only [qOf, hi, numAt, hx]
  · rename_i hj
    exact (List.getElem?_eq_none (by omega)).symm

section
variable {M : Mem} {ρ : Rho} {β : Nat → Option Nat} {hp : List Blk} {lo : List (Nat × List AV)} {w : World} {T : Nat → Option TI}

theorem sub_mem (hR : Real M ρ β hp lo w.heap) : SubM M (mem w) := fun g o h => hR.mem g o h

theorem VRel.noRefs {x : AV} {u : Value} (h : VRel M ρ hp x u) (hr : refs x = []) : VRel M (fun _ => none) [] x u := h.loc fun k hk => by rw [hr] at hk; cases hk

theorem VRel.sc' {x : AV} {v : Value} {k : IntKind} {n : Int} (h : VRel M ρ hp x v) (hx : x = .int k n) : v = .int k n := by
  subst hx
  cases h
  rfl

theorem freeze1_rel (hR : Real M ρ β hp lo w.heap) {x x' : AV} {u : Value} (h : VRel M ρ hp x u) (hf : freeze1 T hp x = some x') : VRel (mem w) (fun _ => none) [] x' u := by
  have same : refs x = [] → x' = x → VRel (mem w) (fun _ => none) [] x' u := fun h1 h2 => by rw [h2]; exact (h.noRefs h1).mono (sub_mem hR) (Ext.refl _ _)
  cases x with
  | bool b => cases hf; exact same rfl rfl
  | int k n => cases hf; exact same rfl rfl
  | str s => cases hf; exact same rfl rfl
  | nilptr => cases hf; exact same rfl rfl
  | nilsl => cases hf; exact same rfl rfl
  | esl => cases hf; exact same rfl rfl
  | vi k sz n q => cases hf; exact same rfl rfl
  | vm n m q => cases hf; exact same rfl rfl
  | vf sz n f => cases hf; exact same rfl rfl
  | vs sz rows =>
    simp only [freeze1] at hf
    split at hf
    · rename_i hr
      cases hf
      exact same (by simp only [refs]; exact hr) rfl
    · cases hf
  | fn f caps =>
    simp only [freeze1] at hf
    split at hf
    · rename_i hr
      cases hf
      exact same (by simp only [refs]; exact hr) rfl
    · cases hf
  | sl k r n t =>
    simp only [freeze1, Option.bind_eq_some_iff] at hf
    obtain ⟨b, hb, ⟨kk, sz⟩, hk, hf⟩ := hf
    simp only at hf
    split at hf
    · rename_i hc
      obtain ⟨hsz, hn, hrows⟩ := hc
      cases hf
      obtain ⟨hb1, hb2⟩ := fresh_some hb
      cases h with
      | @sl _ _ _ _ _ b' l hb' hl ht ho hs =>
        rw [hb1] at hb'
        cases hb'
        obtain ⟨off, cap, rfl, hnc, hoff, hcap⟩ := hs hb2
        obtain ⟨l', c, hl', hat⟩ := hR.blk k b hb1
        rw [hl] at hl'
        cases hl'
        refine .vi ?_ fun _ _ m c h => by cases h
        by_cases hn0 : n = 0
        · subst hn0
          exact .vf0 _ _ _ _
        · have hoff' : off = r * b.sz := hoff (.inl (by omega))
          subst hoff'
          have hroom := hat.room
          have hmul : (r + n) * b.sz ≤ b.rows.length * b.sz := Nat.mul_le_mul_right _ hn
          have hsize := hat.size
          rw [Nat.add_mul] at hmul
          refine .vf (show mem w l.blk = some _ from hat.at_) hnc (fun i _ => cellsFrom_length _ _ _ _) (by rw [← hsz]; omega) fun i j x u hi hx hu => ?_
          have hget : ((b.rows.drop r).take n)[i]? = b.rows[r + i]? := by rw [List.getElem?_take, if_pos hi, List.getElem?_drop]
          have hlt : r + i < b.rows.length := by omega
          obtain ⟨row, hrow⟩ : ∃ row, b.rows[r + i]? = some row := ⟨_, List.getElem?_eq_getElem hlt⟩
          rw [cells_qOf hrows (hget.trans hrow)] at hx
          have hallr := List.all_eq_true.1 hrows row (List.mem_of_getElem? (hget.trans hrow))
          simp only [Bool.and_eq_true] at hallr
          obtain ⟨m, rfl⟩ := allKind_get hallr.2 hx
          exact (hat.rows (r + i) row j _ u hrow hx (by rw [Nat.add_mul]; rw [← hsz] at hu; exact hu)).sc' rfl
    · cases hf
  | ssl k r c n t =>
    simp only [freeze1, Option.bind_eq_some_iff] at hf
    obtain ⟨b, hb, ⟨kk, sz⟩, hk, row, hrow, hf⟩ := hf
    simp only at hf
    split at hf
    · rename_i hc
      obtain ⟨hsz, hn, hlen, hall⟩ := hc
      cases hf
      obtain ⟨hb1, hb2⟩ := fresh_some hb
      cases h with
      | @ssl _ _ _ _ _ _ b' l hb' hl ht ho hs =>
        rw [hb1] at hb'
        cases hb'
        obtain ⟨off, cap, rfl, hnc, hoff⟩ := hs hb2
        obtain ⟨l', cc, hl', hat⟩ := hR.blk k b hb1
        rw [hl] at hl'
        cases hl'
        refine .vi ?_ fun _ _ m c h => by cases h
        by_cases hn0 : n = 0
        · subst hn0
          exact .vf0 _ _ _ _
        · have hoff' : off = r * b.sz + c := hoff (by omega)
          subst hoff'
          have hroom := hat.room
          have hlt : r < b.rows.length := (List.getElem?_eq_some_iff.1 hrow).1
          have hmul : (r + 1) * b.sz ≤ b.rows.length * b.sz := Nat.mul_le_mul_right _ hlt
          have hsize := hat.size
          rw [Nat.succ_mul] at hmul
          refine .vf (show mem w l.blk = some _ from hat.at_) hnc (fun i _ => cellsFrom_length _ _ _ _) (by omega) fun i j x u hi hx hu => ?_
          have hx0 := hx
          rw [cellsFrom_get] at hx0
          split at hx0
          · rename_i hj
            have hj0 : j = 0 := by omega
            subst hj0
            cases hx0
            obtain ⟨x, hxr⟩ : ∃ x, row[c + i]? = some x := ⟨_, List.getElem?_eq_getElem (by omega)⟩
            obtain ⟨m, rfl⟩ := allKind_get hall hxr
            have hnum : numAt row (c + i) = m := by simp only [numAt, hxr]
            rw [hnum]
            exact (hat.rows r row (c + i) _ u hrow hxr (by rw [← Nat.add_assoc]; simpa using hu)).sc' rfl
          · cases hx0
    · cases hf
  | _ => simp [freeze1] at hf

theorem freezeL_get : ∀ {cs cs' : List AV}, freezeL T hp cs = some cs' → cs'.length = cs.length ∧ ∀ (j : Nat) (x' : AV), cs'[j]? = some x' → ∃ x, cs[j]? = some x ∧ freeze1 T hp x = some x'
  | [], cs', h => by cases h; exact ⟨rfl, fun j x' h => by simp at h⟩
  | v :: l, cs', h => by
    simp only [freezeL, Option.bind_eq_some_iff, Option.map_eq_some_iff] at h
    obtain ⟨v', hv, l', hl, rfl⟩ := h
    obtain ⟨h1, h2⟩ := freezeL_get hl
    refine ⟨by simp [h1], fun j x' hx => ?_⟩
    cases j with
    | zero => simp at hx; subst hx; exact ⟨v, rfl, hv⟩
    | succ j => obtain ⟨x, a, b⟩ := h2 j x' (by simpa using hx); exact ⟨x, by simpa using a, b⟩
theorem freezeVs_get : ∀ {cs cs' : List AV}, freezeVs T hp cs = some cs' → cs'.length = cs.length ∧ ∀ (j : Nat) (x' : AV), cs'[j]? = some x' → ∃ x, cs[j]? = some x ∧ freezeV T hp x = some x'
  | [], cs', h => by cases h; exact ⟨rfl, fun j x' h => by simp at h⟩
  | v :: l, cs', h => by
    simp only [freezeVs, Option.bind_eq_some_iff, Option.map_eq_some_iff] at h
    obtain ⟨v', hv, l', hl, rfl⟩ := h
    obtain ⟨h1, h2⟩ := freezeVs_get hl
    refine ⟨by simp [h1], fun j x' hx => ?_⟩
    cases j with
    | zero => simp at hx; subst hx; exact ⟨v, rfl, hv⟩
    | succ j => obtain ⟨x, a, b⟩ := h2 j x' (by simpa using hx); exact ⟨x, by simpa using a, b⟩

theorem freezeV_rel (hR : Real M ρ β hp lo w.heap) {x x' : AV} {u : Value} (h : VRel M ρ hp x u) (hf : freezeV T hp x = some x') : VRel (mem w) (fun _ => none) [] x' u := by
  unfold freezeV at hf
  split at hf
  · simp only [Option.map_eq_some_iff] at hf
    obtain ⟨cs', hcs, rfl⟩ := hf
    obtain ⟨h1, h2⟩ := freezeL_get hcs
    cases h with
    | agg hs hone hx =>
      refine .agg (by rw [h1]; exact hs) hone fun j x' u hx' hu => ?_
      obtain ⟨x, hxx, hfx⟩ := h2 j x' hx'
      exact freeze1_rel hR (hx j x u hxx hu) hfx
  · exact freeze1_rel hR h hf
end

/-! ### nil, and empty slices -/
inductive Weak : AV → AV → Prop
  | same (x : AV) : Weak x x
  | nil (k : IntKind) (sz : Nat) (q : Nat → Nat → Int) (hq : q 0 0 = 1) : Weak .nilsl (.vi k sz 0 q)
  | esl (k : IntKind) (sz : Nat) (q : Nat → Nat → Int) (hq : q 0 0 = 1) : Weak .esl (.vi k sz 0 q)
  | nile : Weak .nilsl .esl
  | nilm (m : Nat → Nat) (q : Nat → Nat → Int) : Weak .nilsl (.vm 0 m q)
  | eslm (m : Nat → Nat) (q : Nat → Nat → Int) : Weak .esl (.vm 0 m q)
  | agg {cs cs' : List AV} (hl : cs'.length = cs.length) (h : ∀ (j : Nat) (x x' : AV), cs[j]? = some x → cs'[j]? = some x' → Weak x x') : Weak (.agg cs) (.agg cs')

theorem Weak.rel {M : Mem} {ρ : Rho} {hp : List Blk} {x x' : AV} (h : Weak x x') : ∀ {u : Value}, VRel M ρ hp x u → VRel M ρ hp x' u := by
  induction h with
  | same x => exact fun h => h
  | nil k sz q hq => intro u h; cases h; exact .vi (.vf0 _ _ _ _) fun _ h => by omega
  | esl k sz q hq => intro u h; cases h; exact .vi (.vf0 _ _ _ _) fun _ h => by omega
  | nile => intro u h; cases h; exact .esl none
  | nilm m q => intro u h; cases h; exact .vm0 _ _ _ _
  | eslm m q => intro u h; cases h; exact .vm0 _ _ _ _
  | @agg cs cs' hl _ ih =>
    intro u h
    cases h with
    | agg hs hone hx =>
      refine .agg (by rw [hl]; exact hs) hone fun j x' u hx' hu => ?_
      obtain ⟨hj, _⟩ := List.getElem?_eq_some_iff.1 hx'
      obtain ⟨x, hxx⟩ : ∃ x, cs[j]? = some x := ⟨_, List.getElem?_eq_getElem (by omega)⟩
      exact ih j x x' hxx hx' (hx j x u hxx hu)

/-! ### tables -/
/-- a call at these values, in an empty heap, gives this, truly -/
def Tells (P : Program) (f : Nat) (vs : List AV) (v : AV) (new : List Blk) : Prop := ∃ (R : Rec) (c : Nat), RecSound P R ∧ R f vs [] = some (v, new, c)

/-- what is handed back may be told as never written -/
def FrzRel (new : List Blk) (v0 v : AV) : Prop := (∀ d, shiftV d v = v) ∧ ∀ (M : Mem) (ρ : Rho) (H : Array Obj) (Mn : Mem) (u : Value), Real M ρ (fun _ => none) new [] H → (∀ g, M g = none → Mn g = H[g]?) → VRel M ρ new v0 u → VRel Mn (fun _ => none) [] v u

abbrev Tbl := Nat → Option (List AV → Option (AV × List Blk))
def TblOk (P : Program) (tbl : Tbl) : Prop := ∀ f g, tbl f = some g → ∀ vs v new, g vs = some (v, new) → ∃ vs' v0 new0, vs'.length = vs.length ∧ (∀ (j : Nat) (x x' : AV), vs[j]? = some x → vs'[j]? = some x' → Weak x x') ∧ allNoL vs' = true ∧ Tells P f vs' v0 new0 ∧
  ((v = v0 ∧ new = new0 ∧ clean v0 = true ∧ cleanB new0) ∨ (new = [] ∧ FrzRel new0 v0 v))

/-- what a table tells, in any heap -/
def oraOf (T : Nat → Option TI) (tbl : Tbl) : Rec := fun f vs hp => match tbl f with
  | some g => (freezeVs T hp vs).bind fun vs' => (g vs').map fun (v, new) => (shiftV hp.length v, hp ++ new.map (shiftB hp.length), hp.length)
  | none => none

theorem oraOf_keeps (T : Nat → Option TI) (tbl : Tbl) : Keeps (oraOf T tbl) := by
  intro f vs hp v hp' c h
  unfold oraOf at h
  split at h
  · simp only [Option.bind_eq_some_iff, Option.map_eq_some_iff] at h
    obtain ⟨vs', _, ⟨v0, new⟩, _, he⟩ := h
    cases he
    exact ⟨by simp, Nat.le_refl _, fun k hk => List.getElem?_append_left hk⟩
  · cases h

theorem oraOf_sound {P : Program} {T : Nat → Option TI} {tbl : Tbl} (ht : TblOk P tbl) : RecSound P (oraOf T tbl) := by
  intro f vs hp v hp' c h hL
  unfold oraOf at h
  split at h
  · rename_i g hg
    simp only [Option.bind_eq_some_iff, Option.map_eq_some_iff] at h
    obtain ⟨vs1, hvs, ⟨v1, new⟩, hgv, he⟩ := h
    cases he
    obtain ⟨vs2, v0, new0, hlen, hweak, hL2, ⟨R, c0, hRS, hRun⟩, hcase⟩ := ht f g hg vs1 v1 new hgv
    obtain ⟨hfn, hcalls⟩ := hRS f vs2 [] v0 new0 c0 hRun hL2
    refine ⟨hfn, fun M ρ β lo w xs hR hl hx => ?_⟩
    obtain ⟨hfl, hfg⟩ := freezeVs_get hvs
    refine (hcalls (mem w) (fun _ => none) (fun _ => none) [] w xs (real_start w) (by rw [hl, hlen, hfl]) (fun j x u hxj huj => ?_)).mono fun en w' ⟨u, he, M', ρ', hM, _, hR', hv, hA⟩ => ?_
    · have hj := (List.getElem?_eq_some_iff.1 hxj).1
      obtain ⟨x1, hx1⟩ : ∃ x1, vs1[j]? = some x1 := ⟨_, List.getElem?_eq_getElem (by omega)⟩
      obtain ⟨x0, hx0, hfx⟩ := hfg j x1 hx1
      exact (hweak j x1 x hx1 hxj).rel (freezeV_rel hR (hx j x0 u hx0 huj) hfx)
    · have hold : ∀ g, g < w.heap.size → w'.heap[g]? = w.heap[g]? := fun g hg => by
        have h1 : mem w g = some w.heap[g] := Array.getElem?_eq_getElem hg
        rw [hR'.mem g _ (hM g _ h1), Array.getElem?_eq_getElem hg]
      have R1 : Real M ρ β hp lo w'.heap := hR.keep hA.size hold
      have hbig : ∀ g, M' g = none → w.heap.size ≤ g := fun g hg => by
        apply Nat.le_of_not_lt
        intro hlt
        have h1 : mem w g = some w.heap[g] := Array.getElem?_eq_getElem hlt
        rw [hM g _ h1] at hg
        cases hg
      have hMlt : ∀ g o, M g = some o → g < w.heap.size := fun g o hg => lt_of_at (hR.mem g o hg)
      rcases hcase with ⟨rfl, rfl, hc1, hc2⟩ | ⟨rfl, hsh, hfz⟩
      · have hplc : ∀ k l, ρ' k = some l → w.heap.size ≤ l.blk := fun k l hk => by
          have hd := hR'.dom k l hk
          obtain ⟨l', c', hl', hb'⟩ := hR'.blk k _ (List.getElem?_eq_getElem hd)
          rw [hk] at hl'
          cases hl'
          exact hbig _ hb'.free
        have hget : ∀ k, (hp ++ new.map (shiftB hp.length))[hp.length + k]? = (new[k]?).map (shiftB hp.length) := fun k => by
          rw [List.getElem?_append_right (by omega), Nat.add_sub_cancel_left, List.getElem?_map]
        have hsr : ∀ {x : AV} {u : Value}, VRel M' ρ' new x u → clean x = true → VRel M (fun k => if k < hp.length then ρ k else ρ' (k - hp.length)) (hp ++ new.map (shiftB hp.length)) (shiftV hp.length x) u := fun hx hc => shift_rel (d := hp.length) (fun k b l hk hl => ⟨shiftB hp.length b, by rw [hget, hk]; rfl, by simp [shiftB], rfl, by
          show (if hp.length + k < hp.length then _ else _) = _
          rw [if_neg (by omega), Nat.add_sub_cancel_left]; exact hl⟩) hx hc
        have hE : Ext ρ hp (fun k => if k < hp.length then ρ k else ρ' (k - hp.length)) (hp ++ new.map (shiftB hp.length)) := fun k b l hk hl => by
          have hlt := (List.getElem?_eq_some_iff.1 hk).1
          exact ⟨b, l, by rw [List.getElem?_append_left hlt]; exact hk, by simp [hlt, hl], rfl, Nat.le_refl _, fun _ => rfl⟩
        refine ⟨u, he, M, _, SubM.refl _, hE, ⟨R1.mem, fun k b hb => ?_, fun k k' l l' h1 h2 e => ?_, fun k l h1 => ?_, fun d g cs hd hlk => ?_, R1.vlt, R1.vinj, fun d g k l hd h1 => ?_⟩, hsr hv hc1, hA⟩
        · by_cases hk : k < hp.length
          · rw [List.getElem?_append_left hk] at hb
            obtain ⟨l, c, hl, hbl⟩ := R1.blk k b hb
            exact ⟨l, c, by simp [hk, hl], { hbl with rows := hbl.rows.mono (SubM.refl _) hE }⟩
          · obtain ⟨k, rfl⟩ : ∃ i, k = hp.length + i := ⟨k - hp.length, by omega⟩
            rw [hget] at hb
            simp only [Option.map_eq_some_iff] at hb
            obtain ⟨b0, hb0, rfl⟩ := hb
            obtain ⟨l, c, hl, hbl⟩ := hR'.blk k b0 hb0
            refine ⟨l, c, by rw [if_neg (by omega), Nat.add_sub_cancel_left]; exact hl, ⟨?_, hbl.at_, hbl.size, hbl.pos, by simpa [shiftB] using hbl.room, fun row hrow => ?_, hbl.one, fun i row j x u hi hj hu => ?_⟩⟩
            · cases hM0 : M l.blk with
              | none => rfl
              | some o => exact absurd (hMlt _ _ hM0) (by have := hplc k l hl; omega)
            · simp only [shiftB, List.mem_map] at hrow
              obtain ⟨r0, hr0, rfl⟩ := hrow
              rw [shiftVs_length]
              exact hbl.len r0 hr0
            · simp only [shiftB, List.getElem?_map, Option.map_eq_some_iff] at hi
              obtain ⟨r0, hr0, rfl⟩ := hi
              rw [shiftVs_get] at hj
              simp only [Option.map_eq_some_iff] at hj
              obtain ⟨x0, hx0, rfl⟩ := hj
              exact hsr (hbl.rows i r0 j x0 u hr0 hx0 hu) (cleanL_get r0 j x0 (hc2 b0 (List.mem_of_getElem? hb0) r0 (List.mem_of_getElem? hr0)) hx0)
        · split at h1 <;> split at h2
          · exact R1.inj k k' l l' h1 h2 e
          · have := hR.plt h1; have := hplc _ _ h2; omega
          · have := hR.plt h2; have := hplc _ _ h1; omega
          · have := hR'.inj _ _ l l' h1 h2 e; omega
        · rw [List.length_append, List.length_map]
          split at h1
          · omega
          · have h2 := hR'.dom _ _ h1
            show k < hp.length + new.length
            omega
        · obtain ⟨c, e, hva⟩ := R1.var d g cs hd hlk
          exact ⟨c, e, { hva with cells := hva.cells.mono (SubM.refl _) hE }⟩
        · split at h1
          · exact R1.vdis d g k l hd h1
          · have := hR.vlt d g hd; have := hplc _ _ h1; omega
      · rw [List.map_nil, List.append_nil, hsh]
        let Mn : Mem := fun g => if g < w.heap.size then M g else w'.heap[g]?
        have hsub : SubM M Mn := fun g o hg => by show (if g < w.heap.size then M g else _) = _; rw [if_pos (hMlt g o hg)]; exact hg
        refine ⟨u, he, Mn, ρ, hsub, Ext.refl _ _, ⟨fun g o hg => ?_, fun k b hb => ?_, R1.inj, R1.dom, fun d g cs hd hlk => ?_, R1.vlt, R1.vinj, R1.vdis⟩, ?_, hA⟩
        · have hg' : (if g < w.heap.size then M g else w'.heap[g]?) = some o := hg
          split at hg'
          · exact R1.mem g o hg'
          · exact hg'
        · obtain ⟨l, c, hl, hbl⟩ := R1.blk k b hb
          have hlt := hR.plt hl
          exact ⟨l, c, hl, { hbl with free := by show (if l.blk < w.heap.size then M l.blk else _) = _; rw [if_pos hlt]; exact hbl.free, rows := hbl.rows.mono hsub (Ext.refl _ _) }⟩
        · obtain ⟨c, e, hva⟩ := R1.var d g cs hd hlk
          have hlt := hR.vlt d g hd
          exact ⟨c, e, { hva with free := by show (if g < w.heap.size then M g else _) = _; rw [if_pos hlt]; exact hva.free, cells := hva.cells.mono hsub (Ext.refl _ _) }⟩
        · refine (hfz M' ρ' w'.heap Mn u hR' (fun g hg => ?_) hv).mono (SubM.refl _) (fun k b l hk _ => by simp at hk)
          show (if g < w.heap.size then M g else _) = _
          rw [if_neg (by have := hbig g hg; omega)]
  · cases h

end Go.Proofs.Ythbmlioknnhleaa.Abs
