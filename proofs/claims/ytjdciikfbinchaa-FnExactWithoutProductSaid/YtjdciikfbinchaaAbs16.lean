/- The abstract machine: what an operation, code and a call leave alone in the heap. -/
import Derived.Test.YtjdciikfbinchaaAbs15
namespace Go.Proofs.Ytjdciikfbinchaa.Abs
open Go

/-- a call leaves no block away, and where it says that it leaves them alone, it does -/
def Keeps (rec : Rec) : Prop := ∀ (f : Nat) (vs : List AV) (hp : List Blk) (v : AV) (hp' : List Blk) (c : Nat), rec f vs hp = some (v, hp', c) →
  hp.length ≤ hp'.length ∧ c ≤ hp.length ∧ ∀ k, k < c → hp'[k]? = hp[k]?

def Same (hp hp' : List Blk) (S : List Nat) : Prop := hp.length ≤ hp'.length ∧ ∀ k, k < hp.length → k ∉ S → hp'[k]? = hp[k]?
theorem Same.snoc (hp : List Blk) (b : Blk) : Same hp (hp ++ [b]) [] := ⟨by simp, fun k hk _ => List.getElem?_append_left hk⟩
theorem Same.set (hp : List Blk) (k : Nat) (b : Blk) : Same hp (hp.set k b) [k] := ⟨by simp, fun i _ hi => List.getElem?_set_ne (fun e => hi (by simp [e]))⟩

section
variable {T : Nat → Option TI} {rec : Rec} {cfg : Cfg} {st st' : St} {o : Oper} {e : Eff}

/-- the blocks that may be written -/
def Wrote (st : St) (o : Oper) (e : Eff) (hp' : List Blk) : Prop :=
  (isCallFn o.op = true ∧ st.hp.length ≤ hp'.length ∧ e.low ≤ st.hp.length ∧ (∀ k, k < e.low → hp'[k]? = st.hp[k]?) ∧ (e.cl = true → st.n0 ≤ e.low)) ∨
  (isCallFn o.op = false ∧ ∃ S : List Nat, Same st.hp hp' S ∧ (∀ k ∈ S, ∃ x ∈ writesH o.op, ∃ v, opd st.env x = some v ∧ Loc.hp k ∈ locH v) ∧ (e.cl = true → ∀ k ∈ S, st.n0 ≤ k))

theorem Wrote.none_ {hp' : List Blk} (hc : isCallFn o.op = false) (h : Same st.hp hp' []) : Wrote st o e hp' := .inr ⟨hc, [], h, (fun _ hk => by cases hk), fun _ _ hk => by cases hk⟩
theorem Wrote.one {hp' : List Blk} {k : Nat} {x : Operand} {v : AV} (hc : isCallFn o.op = false) (h : Same st.hp hp' [k]) (hx : x ∈ writesH o.op) (hv : opd st.env x = some v) (hk : Loc.hp k ∈ locH v) (hcl : e.cl = true → st.n0 ≤ k) : Wrote st o e hp' :=
  .inr ⟨hc, [k], h, (fun i hi => by simp at hi; subst hi; exact ⟨x, hx, v, hv, hk⟩), fun h' i hi => by simp at hi; rw [hi]; exact hcl h'⟩

theorem varA_wrote {esc : Bool} {dst : Option Nat} {ty : Nat} {cs : List AV} {hp' : List Blk} (hc : isCallFn o.op = false) (h : varA esc st.hp dst ty cs = some e) (hh : e.hp = some hp') : Wrote st o e hp' := by
  unfold varA at h
  split at h
  · cases esc with
    | true =>
      simp only [cond_true] at h
      split at h
      · cases h; cases hh; exact .none_ hc (Same.snoc _ _)
      · cases h
    | false => cases h; cases hh
  · cases h

theorem eff_wrote {hp' : List Blk} (hk : Keeps rec) (h : eff T rec cfg o st = some e) (hh : e.hp = some hp') : Wrote st o e hp' := by
  have valN : ∀ {x : Option AV}, val x = some e → False := fun hv => by
    unfold val at hv
    simp only [Option.map_eq_some_iff] at hv
    obtain ⟨v, _, rfl⟩ := hv
    cases hh
  unfold eff at h
  cases ho : o.op with
  | alloc t =>
    rw [ho] at h
    simp only [Option.bind_eq_some_iff] at h
    obtain ⟨ti, h1, h2⟩ := h
    exact varA_wrote (by simp [isCallFn, ho]) h2 hh
  | box t x =>
    rw [ho] at h
    simp only [Option.bind_eq_some_iff] at h
    obtain ⟨ti, h1, v, h2, h3⟩ := h
    split at h3
    · exact varA_wrote (by simp [isCallFn, ho]) h3 hh
    · cases h3
  | buildSlice t n parts =>
    rw [ho] at h
    simp only [Option.bind_eq_some_iff] at h
    obtain ⟨el, h1, ps, h2, h3⟩ := h
    split at h3
    · simp only [Option.bind_eq_some_iff] at h3
      obtain ⟨rows, hr, h3⟩ := h3
      cases hv : cfg.virt.contains (o.dst.getD 0) with
      | true => rw [hv] at h3; cases h3; cases hh
      | false => rw [hv] at h3; cases h3; cases hh; exact .none_ (by simp [isCallFn, ho]) (Same.snoc _ _)
    · cases h3
  | makeSlice t l c =>
    rw [ho] at h
    simp only [Option.bind_eq_some_iff] at h
    obtain ⟨el, h1, vl, h2, vc, h3, h4⟩ := h
    split at h4
    · split at h4
      · cases h4; cases hh; exact .none_ (by simp [isCallFn, ho]) (Same.snoc _ _)
      · cases h4
    · cases h4
  | store t p x =>
    rw [ho] at h
    simp only [Option.bind_eq_some_iff] at h
    obtain ⟨vp, h1, vx, h2, h3⟩ := h
    unfold storeA at h3
    split at h3
    · split at h3
      · split at h3
        · split at h3
          · split at h3
            · cases h3; cases hh
            · cases h3
          · cases h3
        · rename_i k r c tt
          split at h3
          · split at h3
            · split at h3
              · cases h3
                cases hh
                exact .one (by simp [isCallFn, ho]) (Same.set _ _ _) (x := p) (by simp [ho, writesH]) h1 (by simp [locH]) (fun hd => by simpa using hd)
              · cases h3
            · cases h3
          · cases h3
        · cases h3
      · cases h3
    · cases h3
  | call c =>
    rw [ho] at h
    simp only [Option.bind_eq_some_iff] at h
    obtain ⟨vs, hvs, h⟩ := h
    have call : ∀ {f : Nat} {ws : List AV}, callFn c = true → callA rec st.hp st.n0 f ws = some e → Wrote st o e hp' := by
      intro f ws hc h
      unfold callA at h
      cases hL : allNoL ws with
      | false => rw [hL] at h; cases h
      | true =>
        rw [hL] at h
        simp only [cond_true, Option.map_eq_some_iff] at h
        obtain ⟨⟨v, hp1, cl⟩, hr, rfl⟩ := h
        cases hh
        obtain ⟨h1, h0, h2⟩ := hk _ _ _ _ _ _ hr
        exact .inl ⟨by simp [isCallFn, ho, hc], h1, h0, h2, fun hd => by simpa using hd⟩
    have first : ∀ {x : AV} {l : List AV}, vs = x :: l → ∃ y, y ∈ writesH o.op ∧ opd st.env y = some x := by
      intro x l hv
      subst hv
      cases hcl : c.args.toList with
      | nil => rw [hcl] at hvs; simp [args] at hvs
      | cons y ys =>
        rw [hcl] at hvs
        simp only [args] at hvs
        split at hvs
        · rename_i u us hu hus
          cases hvs
          exact ⟨y, by simp [ho, writesH, hcl], hu⟩
        · cases hvs
    cases hc : c.callee with
    | value x =>
      rw [hc] at h
      cases x with
      | func f => exact call (by simp [callFn, hc]) h
      | tmp t =>
        simp only [Option.bind_eq_some_iff] at h
        obtain ⟨v, hv, h⟩ := h
        split at h
        · exact call (by simp [callFn, hc]) h
        · cases h
      | const k =>
        simp only [Option.bind_eq_some_iff] at h
        obtain ⟨v, hv, h⟩ := h
        split at h
        · exact call (by simp [callFn, hc]) h
        · cases h
      | global g => simp [opd] at h
    | builtin b =>
      rw [hc] at h
      have hno : isCallFn o.op = false := by simp [isCallFn, ho, callFn, hc]
      simp only at h
      unfold builtinA at h
      split at h
      · exact (valN h).elim
      · simp only [Option.map_eq_some_iff] at h
        obtain ⟨_, _, rfl⟩ := h
        cases hh
      · rename_i ty ty2 s x _
        simp only [Option.bind_eq_some_iff] at h
        obtain ⟨⟨el, te⟩, h1, h⟩ := h
        obtain ⟨y, hy, hyv⟩ := first rfl
        have app : ∀ {new : List (List AV)}, appendA st.hp st.n0 el te s new = some e → Wrote st o e hp' := by
          intro new h
          cases s with
          | nilsl =>
            cases new with
            | nil => cases h; cases hh
            | cons r rs =>
              simp only [appendA] at h
              split at h
              · cases h; cases hh; exact .none_ hno (Same.snoc _ _)
              · cases h
          | esl =>
            cases new with
            | nil => cases h; cases hh
            | cons r rs =>
              simp only [appendA] at h
              split at h
              · cases h; cases hh; exact .none_ hno (Same.snoc _ _)
              · cases h
          | sl k r n t =>
            cases r with
            | zero =>
              simp only [appendA] at h
              split at h
              · split at h
                · split at h
                  · cases h; cases hh; exact .one hno (Same.set _ _ _) hy hyv (by simp [locH]) (fun hd => by simpa using hd)
                  · split at h
                    · cases h; cases hh; exact .one hno (Same.set _ _ _) hy hyv (by simp [locH]) (fun hd => by simpa using hd)
                    · cases h
                · cases h
              · cases h
            | succ r => cases h
          | _ => cases h
        simp only at h
        split at h
        · cases hi : isInt T ty2 with
          | true =>
            rw [hi] at h
            simp only [cond_true] at h
            split at h
            · split at h
              · exact app h
              · cases h
            · cases h
          | false =>
            rw [hi] at h
            simp only [cond_false] at h
            cases hs : isSrc T ty2 with
            | false => rw [hs] at h; cases h
            | true =>
              rw [hs] at h
              simp only [cond_true, Option.bind_eq_some_iff] at h
              obtain ⟨new, h2, h⟩ := h
              exact app h
        · cases h
      · rename_i ty x _
        obtain ⟨y, hy, hyv⟩ := first rfl
        simp only [Option.bind_eq_some_iff] at h
        obtain ⟨el, h1, h⟩ := h
        unfold clearA at h
        split at h
        · cases h; cases hh
        · cases h; cases hh
        · simp only [Option.bind_eq_some_iff] at h
          obtain ⟨b, hb, h⟩ := h
          split at h
          · cases h; cases hh; exact .one hno (Same.set _ _ _) hy hyv (by simp [locH]) (fun hd => by simpa using hd)
          · cases h
        · cases h
      · exact (valN h).elim
      · exact (valN h).elim
      · cases h
    | _ => rw [hc] at h; cases h
  | nilCheck x =>
    rw [ho] at h
    simp only [Option.bind_eq_some_iff] at h
    obtain ⟨vx, h1, h2⟩ := h
    split at h2
    · cases h2; cases hh
    · cases h2; cases hh
    · simp only [Option.map_eq_some_iff] at h2
      obtain ⟨_, _, rfl⟩ := h2
      cases hh
    · cases h2; cases hh
    · cases h2
  | makeFunc fn first captured =>
    rw [ho] at h
    cases fn with
    | func f =>
      simp only at h
      split at h
      · simp only [Option.bind_eq_some_iff] at h
        obtain ⟨vs, hvs, h⟩ := h
        cases hL : allNoL vs with
        | false => rw [hL] at h; cases h
        | true => rw [hL] at h; cases h; cases hh
      · cases h
    | _ => cases h
  | extract x i =>
    rw [ho] at h
    simp only [Option.bind_eq_some_iff] at h
    obtain ⟨vx, h1, h2⟩ := h
    split at h2
    · exact (valN h2).elim
    · cases h2
  | slice t x l u m =>
    rw [ho] at h
    simp only [Option.bind_eq_some_iff] at h
    obtain ⟨_, _, _, _, _, _, _, _, h⟩ := h
    exact (valN h).elim
  | pick c x y =>
    rw [ho] at h
    simp only [Option.bind_eq_some_iff] at h
    obtain ⟨_, _, _, _, _, _, h⟩ := h
    exact (valN h).elim
  | move x => rw [ho] at h; exact (valN h).elim
  | assign x => rw [ho] at h; exact (valN h).elim
  | build t ps => rw [ho] at h; simp only [Option.bind_eq_some_iff] at h; obtain ⟨_, _, h⟩ := h; exact (valN h).elim
  | load t x => rw [ho] at h; simp only [Option.bind_eq_some_iff] at h; obtain ⟨_, _, h⟩ := h; exact (valN h).elim
  | unOp p t x => rw [ho] at h; simp only [Option.bind_eq_some_iff] at h; obtain ⟨_, _, h⟩ := h; exact (valN h).elim
  | convert s t x => rw [ho] at h; simp only [Option.bind_eq_some_iff] at h; obtain ⟨_, _, h⟩ := h; exact (valN h).elim
  | fieldAddr s x f => rw [ho] at h; simp only [Option.bind_eq_some_iff] at h; obtain ⟨_, _, h⟩ := h; exact (valN h).elim
  | field s x f => rw [ho] at h; simp only [Option.bind_eq_some_iff] at h; obtain ⟨_, _, h⟩ := h; exact (valN h).elim
  | binOp p t x y z => rw [ho] at h; simp only [Option.bind_eq_some_iff] at h; obtain ⟨_, _, _, _, h⟩ := h; exact (valN h).elim
  | indexAddr t x y => rw [ho] at h; simp only [Option.bind_eq_some_iff] at h; obtain ⟨_, _, _, _, h⟩ := h; exact (valN h).elim
  | index t x y => rw [ho] at h; simp only [Option.bind_eq_some_iff] at h; obtain ⟨_, _, _, _, h⟩ := h; exact (valN h).elim
  | _ => rw [ho] at h; cases h

/-! ### code -/
/-- from one state to the next: the old blocks are still there, and as they were if 'cl' says so -/
def Kept (st st' : St) : Prop := st'.n0 = st.n0 ∧ (st.n0 ≤ st.hp.length → st'.n0 ≤ st'.hp.length ∧ st.hp.length ≤ st'.hp.length ∧ (st'.cl = true → st.cl = true ∧ ∀ k, k < st.n0 → st'.hp[k]? = st.hp[k]?))
theorem Kept.refl (st : St) : Kept st st := ⟨rfl, fun h => ⟨h, Nat.le_refl _, fun h => ⟨h, fun _ _ => rfl⟩⟩⟩
theorem Kept.trans {a b c : St} (h : Kept a b) (k : Kept b c) : Kept a c := by
  refine ⟨k.1.trans h.1, fun hn => ?_⟩
  obtain ⟨h1, h2, h3⟩ := h.2 hn
  obtain ⟨k1, k2, k3⟩ := k.2 h1
  refine ⟨k1, Nat.le_trans h2 k2, fun hc => ?_⟩
  obtain ⟨c1, c2⟩ := k3 hc
  obtain ⟨d1, d2⟩ := h3 c1
  exact ⟨d1, fun i hi => (c2 i (by rw [h.1]; exact hi)).trans (d2 i hi)⟩

theorem eff_kept (hk : Keeps rec) (h : eff T rec cfg o st = some e) (dst : Option Nat) : Kept st (st.app dst e) := by
  refine ⟨rfl, fun hn => ?_⟩
  cases hh : e.hp with
  | none => simp only [St.app, hh, Option.getD_none]; exact ⟨hn, Nat.le_refl _, fun hc => by simp at hc; exact ⟨hc.1, by simp⟩⟩
  | some hp' =>
    simp only [St.app, hh, Option.getD_some]
    rcases eff_wrote hk h hh with ⟨_, h1, _, h2, h4⟩ | ⟨_, S, ⟨h1, h2⟩, _, h3⟩
    · exact ⟨by omega, h1, fun hc => by simp at hc; exact ⟨hc.1, fun k hk => h2 k (by have := h4 hc.2; omega)⟩⟩
    · exact ⟨by omega, h1, fun hc => by simp at hc; exact ⟨hc.1, fun k hk => h2 k (by omega) fun hS => by have := h3 hc.2 k hS; omega⟩⟩

theorem stepA_kept {ops : Array Oper} (hk : Keeps rec) (h : stepA T rec cfg ops o st = some st') : Kept st st' := by
  unfold stepA at h
  simp only [Option.bind_eq_some_iff] at h
  obtain ⟨g, _, h⟩ := h
  cases g with
  | true =>
    simp only [cond_true, Option.map_eq_some_iff] at h
    obtain ⟨e, he, rfl⟩ := h
    exact eff_kept hk he _
  | false => cases h; exact Kept.refl st

theorem stepD_A {ops : Array Oper} {f : Foot} (h : stepD T rec cfg ops o st = some (st', f)) : stepA T rec cfg ops o st = some st' := by
  unfold stepD at h
  unfold stepA
  simp only [Option.bind_eq_some_iff] at h ⊢
  obtain ⟨g, hg, h⟩ := h
  refine ⟨g, hg, ?_⟩
  cases g with
  | true =>
    simp only [cond_true, Option.bind_eq_some_iff, Option.map_eq_some_iff] at h ⊢
    obtain ⟨e, he, h⟩ := h
    refine ⟨e, he, ?_⟩
    cases hn : noStale o.dst e st.env with
    | true => rw [hn] at h; cases h; rfl
    | false => rw [hn] at h; cases h
  | false => cases h; rfl

theorem runOps_kept {ops : Array Oper} (hk : Keeps rec) : ∀ (l : List Oper) (st st' : St), runOps T rec cfg ops l st = some st' → Kept st st'
  | [], st, st', h => by cases h; exact Kept.refl _
  | o :: l, st, st', h => by
    simp only [runOps, Option.bind_eq_some_iff] at h
    obtain ⟨s1, h1, h2⟩ := h
    exact (stepA_kept hk h1).trans (runOps_kept hk l s1 st' h2)

theorem runD_A {ops : Array Oper} : ∀ (l : List Oper) (st st' : St) (fs : List Foot), runD T rec cfg ops l st = some (st', fs) → runOps T rec cfg ops l st = some st'
  | [], st, st', fs, h => by cases h; rfl
  | o :: l, st, st', fs, h => by
    simp only [runD, Option.bind_eq_some_iff, Option.map_eq_some_iff] at h
    obtain ⟨⟨s1, f1⟩, h1, ⟨s2, fs2⟩, h2, h3⟩ := h
    cases h3
    simp only [runOps, stepD_A h1, Option.bind_some]
    exact runD_A l s1 _ _ h2

theorem region_kept {ops : Array Oper} {d : Bool} (hk : Keeps rec) (h : region T rec cfg ops d st = some st') : Kept st st' := by
  unfold region at h
  cases d with
  | false => exact runOps_kept hk _ _ _ h
  | true =>
    cases ho : orderOk ops with
    | false => rw [ho] at h; cases h
    | true =>
      rw [ho] at h
      simp only [cond_true, Option.bind_eq_some_iff] at h
      obtain ⟨⟨s, fs⟩, h1, h2⟩ := h
      cases hf : feetOk ops fs with
      | false => simp [hf] at h2
      | true => simp only [hf, cond_true, Option.some.injEq] at h2; subst h2; exact runOps_kept hk _ _ _ (runD_A _ _ _ _ h1)

theorem norm_kept (cfg : Cfg) (c : Code) (st : St) : Kept st (norm cfg c st) := by
  unfold norm
  split
  · split
    · exact Kept.refl st
    · exact Kept.refl st
  · exact Kept.refl st

theorem evalC_kept (hk : Keeps rec) (n : Nat) (c : Code) : ∀ (st : St) (x : Ex) (st' : St), evalC T n rec cfg c st = some (x, st') → Kept st st' := by
  induction c with
  | skip => intro st x st' h; cases h; exact Kept.refl _
  | exit id => intro st x st' h; cases h; exact Kept.refl _
  | ret => intro st x st' h; cases h; exact Kept.refl _
  | region id ops d =>
    intro st x st' h
    simp only [evalC, Option.map_eq_some_iff] at h
    obtain ⟨s, hs, h⟩ := h
    cases h
    exact region_kept hk hs
  | seq a b iha ihb =>
    intro st x st' h
    simp only [evalC] at h
    split at h
    · rename_i s hs; exact (iha _ _ _ hs).trans (ihb _ _ _ h)
    · exact iha _ _ _ h
  | cond c a b iha ihb =>
    intro st x st' h
    simp only [evalC] at h
    split at h
    · split at h
      · exact iha _ _ _ h
      · exact ihb _ _ _ h
    · cases h
  | block id c ih =>
    intro st x st' h
    simp only [evalC] at h
    split at h
    · rename_i i s hs
      split at h <;> (cases h; exact ih _ _ _ hs)
    · exact ih _ _ _ h
  | loop c ih =>
    intro st x st' h
    simp only [evalC] at h
    have : ∀ m st, loopA (norm cfg c) (evalC T n rec cfg c) m st = some (x, st') → Kept st st' := by
      intro m
      induction m with
      | zero => intro st h; cases h
      | succ m ihm =>
        intro st h
        rw [loopA] at h
        split at h
        · rename_i s hs; exact ((norm_kept _ _ _).trans (ih _ _ _ hs)).trans (ihm _ h)
        · exact (norm_kept _ _ _).trans (ih _ _ _ h)
    exact this n st h
  | _ => intro st x st' h; cases h

end

theorem out_keeps {st : St} {r : AV} (hn : st.n0 ≤ st.hp.length) {v : AV} {hp' : List Blk} {c : Nat} (h : out st r = (v, hp', c)) : st.n0 ≤ hp'.length ∧ c ≤ st.n0 ∧ ∀ k, k < c → st.cl = true ∧ hp'[k]? = st.hp[k]? := by
  have tk : st.n0 ≤ (st.hp.take st.n0).length := by simp; omega
  have tg : ∀ k, k < st.n0 → (st.hp.take st.n0)[k]? = st.hp[k]? := fun k hk => by rw [List.getElem?_take, if_pos hk]
  unfold out at h
  cases hc : st.cl with
  | false => rw [hc] at h; cases h; exact ⟨hn, Nat.zero_le _, fun k h => by omega⟩
  | true =>
    rw [hc] at h
    simp only [cond_true] at h
    split at h
    · cases h; exact ⟨tk, Nat.le_refl _, fun k hk => ⟨rfl, tg k hk⟩⟩
    · split at h
      · split at h
        · split at h
          · split at h
            · cases h
              refine ⟨by simp at tk ⊢; omega, Nat.le_refl _, fun k hk => ⟨rfl, ?_⟩⟩
              rw [List.getElem?_append_left (by omega)]
              exact tg k hk
            · cases h; exact ⟨hn, Nat.le_refl _, fun _ _ => ⟨rfl, rfl⟩⟩
          · cases h; exact ⟨hn, Nat.le_refl _, fun _ _ => ⟨rfl, rfl⟩⟩
        · cases h; exact ⟨tk, Nat.le_refl _, fun k hk => ⟨rfl, tg k hk⟩⟩
      · cases h; exact ⟨hn, Nat.le_refl _, fun _ _ => ⟨rfl, rfl⟩⟩

theorem outN_eq {st : St} {hp0 : List Blk} {r : AV} (h : st.cl = true → st.hp.take st.n0 = hp0) : outN hp0 st r = out st r := by
  unfold outN out
  cases hc : st.cl with
  | false => rfl
  | true => rw [h hc]

theorem take_eq {a b : List Blk} (h : ∀ k, k < a.length → b[k]? = a[k]?) : b.take a.length = a := by
  apply List.ext_getElem?
  intro k
  rw [List.getElem?_take]
  by_cases hk : k < a.length
  · rw [if_pos hk]; exact h k hk
  · rw [if_neg hk, List.getElem?_eq_none (by omega)]

theorem evalF_keeps (P : Program) (cfg : Cfgs) (hko : Keeps cfg.ora) : ∀ n, Keeps (evalF P cfg n)
  | 0 => fun _ _ _ _ _ _ h => by cases h
  | n + 1 => by
    intro f vs hp v hp' c h
    rw [evalF_succ] at h
    cases ho : cfg.ora f vs hp with
    | some y =>
      rw [ho] at h
      cases h
      exact hko f vs hp v hp' c ho
    | none =>
    rw [ho] at h
    simp only at h
    have fin : ∀ {fn : Func} {k : Code} {x : Ex} {st : St}, evalC (tiOf P) n (evalF P cfg n) (cfg f) k (enterA vs hp) = some (x, st) → finish (tiOf P) fn hp st = some (v, hp', c) → hp.length ≤ hp'.length ∧ c ≤ hp.length ∧ ∀ k, k < c → hp'[k]? = hp[k]? := by
      intro fn k x st h1 h2
      obtain ⟨k1, k2⟩ := evalC_kept (evalF_keeps P cfg hko n) n k _ _ _ h1
      obtain ⟨k3, k4, k5⟩ := k2 (Nat.le_refl _)
      unfold finish at h2
      simp only [Option.bind_eq_some_iff] at h2
      obtain ⟨rs, _, h2⟩ := h2
      cases hL : allNoL rs with
      | false => rw [hL] at h2; cases h2
      | true =>
        rw [hL] at h2
        simp only [cond_true, Option.some.injEq] at h2
        have hn : st.n0 = hp.length := k1
        rw [outN_eq fun hc => by rw [hn]; exact take_eq (k5 hc).2] at h2
        obtain ⟨o1, o0, o2⟩ := out_keeps k3 h2
        refine ⟨by omega, by omega, fun i hi => ?_⟩
        obtain ⟨o3, o4⟩ := o2 i hi
        rw [o4]
        exact (k5 o3).2 i (by omega)
    split at h
    · split at h
      · cases hk : codeOk (max _ vs.length) _ with
        | false => rw [hk] at h; cases h
        | true =>
          rw [hk] at h
          simp only [cond_true] at h
          split at h
          · rename_i hs; exact fin hs h
          · rename_i hs; exact fin hs h
          · cases h
      · cases h
    · cases h

end Go.Proofs.Ytjdciikfbinchaa.Abs
