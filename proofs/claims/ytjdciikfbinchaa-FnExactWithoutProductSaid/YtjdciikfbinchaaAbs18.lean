/- The abstract machine: a region of mixed order comes to the same in every order. -/
import Derived.Test.YtjdciikfbinchaaAbs17
namespace Go.Proofs.Ytjdciikfbinchaa.Abs
open Go

section
variable {T : Nat → Option TI} {rec : Rec} {cfg : Cfg} {ops : Array Oper}

structure Indep (ops : Array Oper) (x y : Oper) (fx fy : Foot) : Prop where
  dst : ∀ d, x.dst = some d → y.dst ≠ some d
  looks : ∀ d, x.dst = some d → d ∉ Abs.looks ops y
  looks' : ∀ d, y.dst = some d → d ∉ Abs.looks ops x
  act : ¬ (fx.act = true ∧ fy.act = true)
  wr : meets fx.wr fy.rd = false
  ww : meets fx.wr fy.wr = false
  rw : meets fx.rd fy.wr = false

theorem Loc.meets_comm (a b : Loc) : a.meets b = b.meets a := by
  cases a <;> cases b <;> simp [Loc.meets] <;> exact Bool.eq_iff_iff.2 ⟨fun h => by simpa using (by simpa using h : _ = _).symm, fun h => by simpa using (by simpa using h : _ = _).symm⟩
theorem meets_false {x y : List Loc} : meets x y = false ↔ ∀ a ∈ x, ∀ b ∈ y, a.meets b = false := by
  unfold meets
  simp only [List.any_eq_false, Bool.not_eq_true]
theorem meets_comm (x y : List Loc) : meets x y = meets y x := by
  cases h : meets y x with
  | false => rw [meets_false] at h ⊢; exact fun a ha b hb => by rw [Loc.meets_comm]; exact h b hb a ha
  | true =>
    cases h' : meets x y with
    | true => rfl
    | false =>
      rw [meets_false] at h'
      have : meets y x = false := meets_false.2 fun a ha b hb => by rw [Loc.meets_comm]; exact h' b hb a ha
      rw [h] at this; cases this

theorem Indep.symm {x y : Oper} {fx fy : Foot} (h : Indep ops x y fx fy) : Indep ops y x fy fx :=
  ⟨fun d hy hx => h.dst d hx hy, h.looks', h.looks, fun ⟨a, b⟩ => h.act ⟨b, a⟩, by rw [meets_comm]; exact h.rw, by rw [meets_comm]; exact h.ww, by rw [meets_comm]; exact h.wr⟩

theorem no_lo {x y : List Loc} (h : meets x y = false) {d : Nat} (hx : Loc.lo d ∈ x) (hy : Loc.lo d ∈ y) : False := by
  have := meets_false.1 h _ hx _ hy
  simp [Loc.meets] at this

theorem foot_lo {st : St} {o : Oper} {e : Eff} {f : Foot} (h : Does T rec cfg ops st o e f) {d : Nat} {cs : List AV} (hl : e.lo = some (d, cs)) : Loc.lo d ∈ f.wr := by
  obtain ⟨_, ⟨_, _, rfl⟩ | ⟨_, rfl, _⟩⟩ := h
  · unfold foot
    refine List.mem_append_left _ (List.mem_append_left _ ?_)
    rw [hl]; simp
  · cases hl
theorem foot_new {st : St} {o : Oper} {e : Eff} {f : Foot} (h : Does T rec cfg ops st o e f) {d c : Nat} (hv : e.v = .lptr d c) (hd : o.dst = some d) : Loc.lo d ∈ f.wr := by
  obtain ⟨_, ⟨_, _, rfl⟩ | ⟨_, rfl, _⟩⟩ := h
  · unfold foot
    refine List.mem_append_left _ (List.mem_append_right _ ?_)
    rw [hv, hd]; simp
  · cases hv
theorem foot_v {st : St} {o : Oper} {e : Eff} {f : Foot} (h : Does T rec cfg ops st o e f) {d c : Nat} (hv : e.v = .lptr d c) : Loc.lo d ∈ f.rd := by
  obtain ⟨_, ⟨_, _, rfl⟩ | ⟨_, rfl, _⟩⟩ := h
  · unfold foot
    refine List.mem_append_left _ (List.mem_append_left _ (List.mem_append_left _ (List.mem_append_right _ ?_)))
    rw [hv]; simp [locL]
  · cases hv
theorem foot_old {st : St} {o : Oper} {e : Eff} {f : Foot} (h : Does T rec cfg ops st o e f) {d t c : Nat} (hd : o.dst = some t) (hv : get st.env t = .lptr d c) : Loc.lo d ∈ f.rd := by
  obtain ⟨_, ⟨_, _, rfl⟩ | ⟨_, _, rfl⟩⟩ := h
  · unfold foot
    refine List.mem_append_left _ (List.mem_append_left _ (List.mem_append_right _ ?_))
    simp [dstL, hd, hv, locL]
  · simp [footNo, dstL, hd, hv, locL]
theorem foot_act {st : St} {o : Oper} {e : Eff} {f : Foot} (h : Does T rec cfg ops st o e f) : f.act = e.hp.isSome := by
  obtain ⟨_, ⟨_, _, rfl⟩ | ⟨_, rfl, rfl⟩⟩ := h
  · rfl
  · rfl

/-- the heap blocks that an operation's foot does not name are as they were -/
theorem foot_hp (hk : Keeps rec) {st : St} {o : Oper} {e : Eff} {f : Foot} (h : Does T rec cfg ops st o e f) {hp' : List Blk} (hh : e.hp = some hp') {k : Nat} (hn : ∀ l ∈ f.wr, l.meets (.hp k) = false) : hp'[k]? = st.hp[k]? := by
  obtain ⟨_, ⟨_, he, rfl⟩ | ⟨_, rfl, _⟩⟩ := h
  · rcases eff_wrote hk he hh with ⟨hc, h1, h0, h2, _⟩ | ⟨hc, S, ⟨h1, h2⟩, h3, _⟩
    · have := hn (.ge e.low) (by unfold foot; simp [hh, hc])
      simp [Loc.meets] at this
      exact h2 k (by omega)
    · have hl := hn (.ge st.hp.length) (by unfold foot; simp [hh, hc])
      simp [Loc.meets] at hl
      refine h2 k (by omega) fun hS => ?_
      obtain ⟨x, hx, v, hv, hkk⟩ := h3 k hS
      obtain ⟨t, rfl, ht⟩ := tmp_of hv (.inr (fun h0 => by rw [h0] at hkk; cases hkk))
      have := hn (.hp k) (by
        unfold foot
        refine List.mem_append_right _ ?_
        simp only [hh, hc, Option.isSome_some, cond_true, cond_false]
        exact List.mem_cons_of_mem _ (List.mem_flatMap.2 ⟨_, mem_tmpVs hx, by rw [ht]; exact hkk⟩))
      simp [Loc.meets] at this
  · cases hh

theorem app_lo (st : St) (dst : Option Nat) (e : Eff) (d : Nat) : (st.app dst e).lo.lookup d = match e.lo with
    | some (d', cs) => if d = d' then some cs else st.lo.lookup d
    | none => st.lo.lookup d := lookup_putL _ _ _

/-- an operation does the same before another as behind it -/
theorem does_move (hk : Keeps rec) {st : St} {x y : Oper} {ex ey : Eff} {fx fy : Foot} (hx : Does T rec cfg ops st x ex fx) (hi : Indep ops x y fx fy) :
    Does T rec cfg ops (st.app x.dst ex) y ey fy ↔ Does T rec cfg ops st y ey fy := by
  have g := get_app hx.1
  have gl : ∀ t ∈ looks ops y, get (st.app x.dst ex).env t = get st.env t := fun t ht => by
    rw [g, if_neg fun e => hi.looks t e ht]
  have lo : ∀ d, Loc.lo d ∈ fy.rd → (st.app x.dst ex).lo.lookup d = st.lo.lookup d := fun d hd => by
    rw [app_lo]
    split
    · rename_i d' cs hl
      rw [if_neg]
      rintro rfl
      exact no_lo hi.wr (foot_lo hx hl) hd
    · rfl
  have hp : (st.app x.dst ex).hp = st.hp ∨ (fy.act = false ∧ ∀ k, Loc.hp k ∈ fy.rd → (st.app x.dst ex).hp[k]? = st.hp[k]?) := by
    cases hh : ex.hp with
    | none => exact .inl (by simp [St.app, hh])
    | some hp' =>
      refine .inr ⟨?_, fun k hkk => ?_⟩
      · cases ha : fy.act with
        | false => rfl
        | true => exact absurd ⟨by rw [foot_act hx, hh]; rfl, ha⟩ hi.act
      · simp only [St.app, hh, Option.getD_some]
        exact foot_hp hk hx hh fun l hl => meets_false.1 hi.wr l hl _ hkk
  have dst : ∀ d, y.dst = some d → get (st.app x.dst ex).env d = get st.env d := fun d hd => by rw [g, if_neg fun e => hi.dst d e hd]
  constructor
  · intro hy
    refine does_ag hy (fun t ht => (gl t ht).symm) (fun d hd => (lo d hd).symm) (hp.imp Eq.symm fun ⟨a, b⟩ => ⟨a, fun k hk => (b k hk).symm⟩) rfl (fun d hd => by rw [dst d hd]) ?_
    have hn := noStale_iff.1 hy.1
    refine noStale_iff.2 fun d hv hd t ht => ?_
    have := hn d hv hd t ht
    rw [g] at this
    by_cases hxt : x.dst = some t
    · cases hgt : get st.env t with
      | lptr d' c =>
        by_cases hdd : d' = d
        · subst hdd
          exact (no_lo hi.rw (foot_old hx hxt hgt) (foot_new hy hv hd)).elim
        · simp [isL, hdd]
      | _ => rfl
    · rw [if_neg hxt] at this; exact this
  · intro hy
    refine does_ag hy gl lo hp rfl (fun d hd => by rw [dst d hd]) ?_
    have hn := noStale_iff.1 hy.1
    refine noStale_iff.2 fun d hv hd t ht => ?_
    rw [g]
    by_cases hxt : x.dst = some t
    · rw [if_pos hxt]
      cases hgt : ex.v with
      | lptr d' c =>
        by_cases hdd : d' = d
        · subst hdd
          exact (no_lo hi.rw (foot_v hx hgt) (foot_new hy hv hd)).elim
        · simp [isL, hdd]
      | _ => rfl
    · rw [if_neg hxt]; exact hn d hv hd t ht

theorem swap (hk : Keeps rec) {st : St} {x y : Oper} {ex ey : Eff} {fx fy : Foot} (hx : Does T rec cfg ops st x ex fx) (hy : Does T rec cfg ops (st.app x.dst ex) y ey fy) (hi : Indep ops x y fx fy) :
    Does T rec cfg ops st y ey fy ∧ Does T rec cfg ops (st.app y.dst ey) x ex fx ∧ Eqv ((st.app x.dst ex).app y.dst ey) ((st.app y.dst ey).app x.dst ex) := by
  have h1 := (does_move hk hx hi).1 hy
  have h2 := (does_move hk h1 hi.symm).2 hx
  refine ⟨h1, h2, ⟨fun t => ?_, fun d => ?_, ?_, rfl, ?_⟩⟩
  · rw [get_app h2.1, get_app h1.1, get_app hy.1, get_app hx.1]
    by_cases a : x.dst = some t
    · have b : y.dst ≠ some t := hi.dst t a
      rw [if_pos a, if_neg b, if_pos a]
    · rw [if_neg a, if_neg a]
  · rw [app_lo, app_lo, app_lo, app_lo]
    cases hlx : ex.lo with
    | none => rfl
    | some p =>
      cases hly : ey.lo with
      | none => rfl
      | some q =>
        obtain ⟨d1, c1⟩ := p
        obtain ⟨d2, c2⟩ := q
        simp only
        by_cases a : d = d1
        · subst a
          rw [if_pos rfl]
          by_cases b : d = d2
          · subst b
            exact (no_lo hi.ww (foot_lo hx hlx) (foot_lo hy hly)).elim
          · rw [if_neg b, if_pos rfl]
        · rw [if_neg a, if_neg a]
  · cases hhx : ex.hp with
    | none => simp [St.app, hhx]
    | some p =>
      cases hhy : ey.hp with
      | none => simp [St.app, hhy]
      | some q => exact absurd ⟨by rw [foot_act hx, hhx]; rfl, by rw [foot_act hy, hhy]; rfl⟩ hi.act
  · simp only [St.app]
    cases st.cl <;> cases ex.cl <;> cases ey.cl <;> rfl

/-! ### runs -/
inductive Run (T : Nat → Option TI) (rec : Rec) (cfg : Cfg) (ops : Array Oper) : St → List (Oper × Foot) → St → Prop
  | nil (s : St) : Run T rec cfg ops s [] s
  | cons {s s' : St} {o : Oper} {e : Eff} {f : Foot} {l : List (Oper × Foot)} (h : Does T rec cfg ops s o e f) (r : Run T rec cfg ops (s.app o.dst e) l s') : Run T rec cfg ops s ((o, f) :: l) s'

theorem Eqv.stale {s s' : St} (h : Eqv s s') {dst : Option Nat} {e : Eff} (hn : noStale dst e s.env = true) : noStale dst e s'.env = true := by
  rw [noStale_iff] at hn ⊢
  exact fun d h1 h2 t ht => by rw [h.env]; exact hn d h1 h2 t ht
theorem Eqv.does {s s' : St} (h : Eqv s s') {o : Oper} {e : Eff} {f : Foot} (hd : Does T rec cfg ops s o e f) : Does T rec cfg ops s' o e f ∧ Eqv (s.app o.dst e) (s'.app o.dst e) := by
  have h2 : Does T rec cfg ops s' o e f := does_ag hd (fun t _ => h.env t) (fun d _ => h.lo d) (.inl h.hp) h.n0 (fun d _ => by rw [h.env]) (h.stale hd.1)
  refine ⟨h2, ⟨fun t => ?_, fun d => ?_, ?_, h.n0, ?_⟩⟩
  · rw [get_app h2.1, get_app hd.1, h.env]
  · rw [app_lo, app_lo, h.lo]
  · simp only [St.app, h.hp]
  · simp only [St.app, h.cl]

theorem Run.eqv {s s2 s' : St} {l : List (Oper × Foot)} (h : Run T rec cfg ops s l s') (he : Eqv s s2) : ∃ s2', Run T rec cfg ops s2 l s2' ∧ Eqv s' s2' := by
  induction h generalizing s2 with
  | nil s => exact ⟨s2, .nil _, he⟩
  | cons hd _ ih =>
    obtain ⟨h1, h2⟩ := he.does hd
    obtain ⟨s2', h3, h4⟩ := ih h2
    exact ⟨s2', .cons h1 h3, h4⟩

theorem Run.front (hk : Keeps rec) {o : Oper} {f : Foot} {B : List (Oper × Foot)} : ∀ (A : List (Oper × Foot)) {s s' : St}, Run T rec cfg ops s (A ++ (o, f) :: B) s' → (∀ a ∈ A, Indep ops a.1 o a.2 f) →
    ∃ e s'', Does T rec cfg ops s o e f ∧ Run T rec cfg ops (s.app o.dst e) (A ++ B) s'' ∧ Eqv s' s''
  | [], s, s', h, _ => by
    cases h with
    | cons hd r => exact ⟨_, s', hd, r, Eqv.refl _⟩
  | (x, fx) :: A, s, s', h, hi => by
    cases h with
    | cons hd r =>
      obtain ⟨e, s1, h1, h2, h3⟩ := Run.front hk A r fun a ha => hi a (List.mem_cons_of_mem _ ha)
      obtain ⟨w1, w2, w3⟩ := swap hk hd h1 (hi (x, fx) (by simp))
      obtain ⟨s2, h4, h5⟩ := h2.eqv w3
      exact ⟨e, s2, w1, .cons w2 h4, h3.trans h5⟩

theorem runD_run : ∀ (l : List Oper) (st st' : St) (fs : List Foot), runD T rec cfg ops l st = some (st', fs) → fs.length = l.length ∧ Run T rec cfg ops st (l.zip fs) st'
  | [], st, st', fs, h => by cases h; exact ⟨rfl, .nil _⟩
  | o :: l, st, st', fs, h => by
    simp only [runD, Option.bind_eq_some_iff, Option.map_eq_some_iff] at h
    obtain ⟨⟨s1, f1⟩, h1, ⟨s2, fs2⟩, h2, h3⟩ := h
    cases h3
    obtain ⟨e, hd, rfl⟩ := stepD_does h1
    obtain ⟨hl, hr⟩ := runD_run l _ _ _ h2
    exact ⟨by simp [hl], .cons hd hr⟩

end
end Go.Proofs.Ytjdciikfbinchaa.Abs
