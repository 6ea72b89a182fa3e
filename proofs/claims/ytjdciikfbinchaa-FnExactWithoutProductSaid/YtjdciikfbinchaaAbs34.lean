/- The abstract machine run with continuations over typed blocks: what it gives is what the machine gives: code, functions, tables. -/
import Derived.Test.YtjdciikfbinchaaAbs33
namespace Go.Proofs.Ytjdciikfbinchaa.Abs
open Go

section
variable {β : Type} {T : Nat → Option TI} {r : β}

theorem learn_id {d : Nat} {b : Bool} : ∀ {env : List (Nat × AV)}, env.lookup d = some (.bool b) → learn d b env = env
  | [], h => by cases h
  | (t, v) :: l, h => by
    simp only [learn]
    rw [List.lookup_cons] at h
    by_cases ht : t = d
    · subst ht
      simp at h ⊢
      exact h.symm
    · have h1 : (t == d) = false := by simpa using ht
      have h2 : (d == t) = false := by simpa using Ne.symm ht
      simp only [h1, cond_false, h2] at h ⊢
      rw [learn_id h]

theorem guardK_s {ops : Array Oper} {o : Oper} {st : KS} {kt kf : KS → Option β} (h : guardK ops o st kt kf = some r) : ∃ g, guardA ops o st.abs = some g ∧ (if g = true then kt st else kf st) = some r := by
  unfold guardK at h
  unfold guardA
  split at h
  · rename_i hg
    exact ⟨true, by rw [hg], by simpa using h⟩
  · rename_i j want hg
    simp only [Option.bind_eq_some_iff] at h
    obtain ⟨d, ⟨oj, ho, hd⟩, h⟩ := h
    rw [hg]
    simp only [ho, Option.bind_some, hd, show st.abs.env = st.env from rfl]
    split at h
    · rename_i b hb
      have hget : get st.env d = .bool b := by unfold get; rw [hb]; rfl
      refine ⟨b == want, by rw [hget], ?_⟩
      have l1 : b = true → learn d true st.env = st.env := fun e => learn_id (by rw [hb, e])
      have l2 : b = false → learn d false st.env = st.env := fun e => learn_id (by rw [hb, e])
      cases want <;> cases b <;> simp at h ⊢
      · rw [l2 rfl] at h; exact h
      · rw [l1 rfl] at h; exact h
      · rw [l2 rfl] at h; exact h
      · rw [l1 rfl] at h; exact h
    · rename_i hb
      have hget : get st.env d = .tup [] := by unfold get; rw [hb]; rfl
      exact ⟨false, by rw [hget], by simpa using h⟩
    · cases h

theorem app_abs (st : KS) (dst : Option Nat) (e : KE) : (st.app dst e).abs = st.abs.app dst e.abs := by
  have h : (match selfK dst e.v with | some d => clr d st.env | none => st.env) = (match e.v with | .lptr d 0 => (match dst with | some d' => bif d == d' then clr d st.env else st.env | none => st.env) | _ => st.env) := by
    unfold selfK
    cases e.v with
    | lptr d c =>
      cases dst with
      | none => cases c <;> rfl
      | some d' => cases h : d == d' <;> cases c <;> simp [h]
    | _ => cases dst <;> rfl
  obtain ⟨v, lo, hp, cl, low⟩ := e
  cases hp with
  | none => exact congrArg (fun env => ({ env := putE env dst v, lo := putL st.lo lo, hp := absH st.hp, n0 := st.n0, cl := st.cl && cl } : St)) h
  | some hp => exact congrArg (fun env => ({ env := putE env dst v, lo := putL st.lo lo, hp := absH hp, n0 := st.n0, cl := st.cl && cl } : St)) h

theorem stepK_s {rec : RecK β} {R : Rec} {cfg : Cfg} {ty : Typed} {ops : Array Oper} {o : Oper} {st : KS} {k : KS → Option β} (hR : RK rec R) (h : stepK T rec cfg ty ops o st k = some r) : ∃ st' : KS, stepA T R cfg ops o st.abs = some st'.abs ∧ k st' = some r := by
  unfold stepK at h
  obtain ⟨g, hg, h⟩ := guardK_s h
  unfold stepA
  cases g with
  | true =>
    simp only [if_true] at h
    obtain ⟨e, he, h⟩ := effK_s hR h
    exact ⟨_, by simp only [hg, Option.bind_some, cond_true, he, Option.map_some, app_abs], h⟩
  | false =>
    simp only [Bool.false_eq_true, if_false] at h
    exact ⟨_, by simp only [hg, Option.bind_some, cond_false]; rfl, h⟩

theorem opsK_s {rec : RecK β} {R : Rec} {cfg : Cfg} {ty : Typed} {ops : Array Oper} (hR : RK rec R) : ∀ (l : List Oper) (st : KS) (k : KS → Option β), opsK T rec cfg ty ops l st k = some r → ∃ st' : KS, runOps T R cfg ops l st.abs = some st'.abs ∧ k st' = some r
  | [], st, k, h => ⟨st, rfl, h⟩
  | o :: l, st, k, h => by
    simp only [opsK] at h
    obtain ⟨s1, h1, h⟩ := stepK_s hR h
    obtain ⟨s2, h2, h⟩ := opsK_s hR l s1 k h
    exact ⟨s2, by simp only [runOps, h1, Option.bind_some, h2], h⟩

theorem foot_abs (o : Oper) (st : KS) (e : KE) : footK o st e = foot o st.abs e.abs := by
  obtain ⟨v, lo, hp, cl, low⟩ := e
  rcases lo with _ | ⟨d, x⟩ <;> cases hp <;> simp [footK, foot, KS.abs, KE.abs, absH_len] <;> (cases v <;> cases o.dst <;> rfl)

theorem stepDK_s {rec : RecK β} {R : Rec} {cfg : Cfg} {ty : Typed} {ops : Array Oper} {o : Oper} {st : KS} {k : KS → Foot → Option β} (hR : RK rec R) (h : stepDK T rec cfg ty ops o st k = some r) : ∃ (st' : KS) (f : Foot), stepD T R cfg ops o st.abs = some (st'.abs, f) ∧ k st' f = some r := by
  unfold stepDK at h
  obtain ⟨g, hg, h⟩ := guardK_s h
  unfold stepD
  cases g with
  | true =>
    simp only [if_true] at h
    obtain ⟨e, he, h⟩ := effK_s hR h
    obtain ⟨h1, h⟩ := bif_k h
    rw [noStaleK_eq] at h1
    exact ⟨_, _, by simp only [hg, Option.bind_some, cond_true, he, show st.abs.env = st.env from rfl, h1, app_abs, foot_abs], h⟩
  | false =>
    simp only [Bool.false_eq_true, if_false] at h
    exact ⟨_, _, by simp only [hg, Option.bind_some, cond_false]; rfl, h⟩

theorem opsDK_s {rec : RecK β} {R : Rec} {cfg : Cfg} {ty : Typed} {ops : Array Oper} (hR : RK rec R) : ∀ (l : List Oper) (st : KS) (k : KS → List Foot → Option β), opsDK T rec cfg ty ops l st k = some r → ∃ (st' : KS) (fs : List Foot), runD T R cfg ops l st.abs = some (st'.abs, fs) ∧ k st' fs = some r
  | [], st, k, h => ⟨st, [], rfl, h⟩
  | o :: l, st, k, h => by
    simp only [opsDK] at h
    obtain ⟨s1, f1, h1, h⟩ := stepDK_s hR h
    obtain ⟨s2, fs, h2, h⟩ := opsDK_s hR l s1 _ h
    exact ⟨s2, f1 :: fs, by simp only [runD, h1, Option.bind_some, h2, Option.map_some], h⟩

theorem regionK_s {rec : RecK β} {R : Rec} {cfg : Cfg} {ty : Typed} {ops : Array Oper} {d : Bool} {st : KS} {k : KS → Option β} (hR : RK rec R) (h : regionK T rec cfg ty ops d st k = some r) : ∃ st' : KS, region T R cfg ops d st.abs = some st'.abs ∧ k st' = some r := by
  unfold regionK at h
  unfold region
  cases d with
  | false => exact opsK_s hR _ _ _ h
  | true =>
    simp only at h
    obtain ⟨h1, h⟩ := bif_k h
    obtain ⟨s, fs, h2, h⟩ := opsDK_s hR _ _ _ h
    obtain ⟨h3, h⟩ := bif_k h
    exact ⟨s, by simp only [cond_true, h1, h2, Option.bind_some, h3], h⟩

theorem norm_abs (cfg : Cfg) (c : Code) (st : KS) : (normK cfg c st).abs = norm cfg c st.abs := by
  unfold normK norm
  cases firstRegion c with
  | none => rfl
  | some i =>
    simp only
    cases cfg.keep.lookup i with
    | none => rfl
    | some p => rfl

theorem codeK_s {P : Program} {cfgs : Cfgs} {m : Rounds} {rec : RecK β} {cfg : Cfg} {ty : Typed} (hR : RK rec (runF P cfgs)) (c : Code) : ∀ (st : KS) (k : Ex → KS → Option β) (r : β), codeK (tiOf P) m rec cfg ty c st k = some r →
    ∃ (x : Ex) (st' : KS), runC P cfgs cfg c st.abs = some (x, st'.abs) ∧ k x st' = some r := by
  induction c with
  | skip => intro st k r h; exact ⟨_, _, runC_skip, h⟩
  | exit id => intro st k r h; exact ⟨_, _, runC_exit, h⟩
  | ret => intro st k r h; exact ⟨_, _, runC_ret, h⟩
  | region id ops d =>
    intro st k r h
    obtain ⟨s, hs, h⟩ := regionK_s hR h
    exact ⟨_, s, by rw [runC_region, hs]; rfl, h⟩
  | seq a b iha ihb =>
    intro st k r h
    simp only [codeK] at h
    obtain ⟨x, s, h1, h⟩ := iha _ _ _ h
    cases x with
    | normal =>
      obtain ⟨y, s2, h2, h⟩ := ihb _ _ _ h
      exact ⟨y, s2, by rw [runC_seq, h1]; exact h2, h⟩
    | exit id => exact ⟨_, s, by rw [runC_seq, h1], h⟩
    | ret => exact ⟨_, s, by rw [runC_seq, h1], h⟩
  | cond y a b iha ihb =>
    intro st k r h
    simp only [codeK] at h
    split at h
    · rename_i t
      split at h
      · rename_i v hv
        have hget : get st.env t = .bool v := by unfold get; rw [hv]; rfl
        cases v with
        | true =>
          rw [learn_id hv] at h
          obtain ⟨x, s, h1, h⟩ := iha _ _ _ h
          exact ⟨x, s, by rw [runC_cond]; simp only [opd, show st.abs.env = st.env from rfl, hget, if_true]; exact h1, h⟩
        | false =>
          rw [learn_id hv] at h
          obtain ⟨x, s, h1, h⟩ := ihb _ _ _ h
          exact ⟨x, s, by rw [runC_cond]; simp only [opd, show st.abs.env = st.env from rfl, hget, Bool.false_eq_true, if_false]; exact h1, h⟩
      · cases h
    · rename_i v
      cases v with
      | true =>
        obtain ⟨x, s, h1, h⟩ := iha _ _ _ h
        exact ⟨x, s, by rw [runC_cond]; simp only [opd, constAV, if_true]; exact h1, h⟩
      | false =>
        obtain ⟨x, s, h1, h⟩ := ihb _ _ _ h
        exact ⟨x, s, by rw [runC_cond]; simp only [opd, constAV, Bool.false_eq_true, if_false]; exact h1, h⟩
    · cases h
  | block id c ih =>
    intro st k r h
    simp only [codeK] at h
    obtain ⟨x, s, h1, h⟩ := ih _ _ _ h
    cases x with
    | normal => exact ⟨_, s, by rw [runC_block, h1], h⟩
    | exit i =>
      simp only [kBlock] at h
      by_cases hi : i = id
      · simp only [hi, decide_true, cond_true] at h
        exact ⟨_, s, by rw [runC_block, h1]; simp [hi], h⟩
      · simp only [hi, decide_false, cond_false] at h
        exact ⟨_, s, by rw [runC_block, h1]; simp [hi], h⟩
    | ret => exact ⟨_, s, by rw [runC_block, h1], h⟩
  | loop c ih =>
    intro st k r h
    simp only [codeK] at h
    have : ∀ (j : Nat) (st : KS) (sa : St), (normK cfg c st).abs = norm cfg c sa → loopK (normK cfg c) (codeK (tiOf P) m rec cfg ty c) j (normK cfg c st) k = some r → ∃ (x : Ex) (st' : KS), runC P cfgs cfg (.loop c) sa = some (x, st'.abs) ∧ k x st' = some r := by
      intro j
      induction j with
      | zero => intro st sa hsa h; cases h
      | succ j ihm =>
        intro st sa hsa h
        rw [loopK] at h
        obtain ⟨x, s, h1, h⟩ := ih _ _ _ h
        rw [runC_loop, ← hsa, h1]
        cases x with
        | normal => exact ihm s s.abs (norm_abs _ _ _) h
        | exit i => exact ⟨_, s, rfl, h⟩
        | ret => exact ⟨_, s, rfl, h⟩
    exact this _ st _ (norm_abs _ _ _) h
  | _ => intro st k r h; cases h

theorem resK_s {st : KS} {x : ResultVar} {k : AV → Option β} (h : resK T st x k = some r) : ∃ v, resA T st.abs x = some v ∧ k v = some r := by
  cases x with
  | tmp t => exact ⟨_, rfl, h⟩
  | cell a t =>
    obtain ⟨v, h1, h⟩ := loadK_s h
    exact ⟨v, h1, h⟩
theorem resKs_s {st : KS} : ∀ {l : List ResultVar} {k : List AV → Option β}, resKs T st l k = some r → ∃ vs, resAs T st.abs l = some vs ∧ k vs = some r
  | [], k, h => ⟨[], rfl, h⟩
  | x :: l, k, h => by
    simp only [resKs] at h
    obtain ⟨v, h1, h⟩ := resK_s h
    obtain ⟨vs, h2, h⟩ := resKs_s h
    exact ⟨_, by simp only [resAs, h1, h2], h⟩

theorem bareK_s {x : KR} {k : Bool → Option β} (h : bareK x k = some r) : (refsR x.list = [] ∧ k true = some r) ∨ (refsR x.list ≠ [] ∧ k false = some r) := by
  have hz : ∀ (l : List (List AV)), (∀ row ∈ l, refsL row = []) → refsR l = [] := by
    intro l
    induction l with
    | nil => intro _; rfl
    | cons a l ih => intro hl; simp only [refsR, hl a (by simp), ih fun row hr => hl row (by simp [hr]), List.append_nil]
  have hs : ∀ (row : List AV), row.all scalarV = true → refsL row = [] := by
    intro row
    induction row with
    | nil => intro _; rfl
    | cons a l ih =>
      intro hl
      simp only [List.all_cons, Bool.and_eq_true] at hl
      simp only [refsL, ih hl.2, List.append_nil]
      cases a <;> first | rfl | simp [scalarV] at hl
  unfold bareK at h
  split at h
  · split at h
    · rename_i hr; exact .inl ⟨hr, h⟩
    · rename_i hr; exact .inr ⟨hr, h⟩
  · rename_i kk sz n q
    refine .inl ⟨hz _ fun row hrow => ?_, h⟩
    obtain ⟨i, _, rfl⟩ := List.mem_map.1 hrow
    have : ∀ n i q, refsL (cellsFrom kk q i n) = [] := by
      intro n
      induction n with
      | zero => intro i q; rfl
      | succ n ih => intro i q; simp only [cellsFrom, refsL, refs, ih, List.append_nil]
    exact this _ _ _
  · obtain ⟨h1, h⟩ := bif_k h
    rw [List.all_eq_true] at h1
    exact .inl ⟨hz _ fun row hrow => hs row (h1 row hrow), h⟩

theorem outK_s {hp0 : List KB} {st : KS} {x : AV} {k : AV → List KB → Nat → Option β} (h : outK hp0 st x k = some r) : ∃ v hp' c, outN (absH hp0) st.abs x = (v, absH hp', c) ∧ k v hp' c = some r := by
  unfold outK at h
  unfold outN
  simp only [show st.abs.cl = st.cl from rfl, show st.abs.hp = absH st.hp from rfl, show st.abs.n0 = st.n0 from rfl]
  cases hc : st.cl with
  | false => rw [hc] at h; exact ⟨_, _, _, rfl, h⟩
  | true =>
    rw [hc] at h
    simp only [cond_true] at h ⊢
    cases hrx : refs x with
    | nil => rw [hrx] at h; exact ⟨_, _, _, rfl, h⟩
    | cons a l =>
      rw [hrx] at h
      simp only at h ⊢
      split at h
      · rename_i i ht
        rw [ht]
        simp only
        by_cases hk : st.n0 ≤ i
        · simp only [hk, decide_true, cond_true] at h
          rw [if_pos hk, absH_get]
          split at h
          · rename_i b hb
            rw [hb]
            simp only [Option.map_some, show b.abs.rows = b.r.list from rfl]
            rcases bareK_s h with ⟨h1, h⟩ | ⟨h1, h⟩
            · rw [h1]
              exact ⟨_, hp0 ++ [b], _, by rw [absH_app]; rfl, h⟩
            · refine ⟨_, st.hp, _, ?_, h⟩
              cases hrr : refsR b.r.list with
              | nil => exact absurd hrr h1
              | cons a l => rfl
          · rename_i hb
            rw [hb]
            exact ⟨_, _, _, rfl, h⟩
        · simp only [hk, decide_false, cond_false] at h
          rw [if_neg hk]
          exact ⟨_, _, _, rfl, h⟩
      · rename_i hne2
        refine ⟨_, st.hp, _, ?_, h⟩
        split
        · rename_i i ht; exact absurd ht (hne2 i)
        · rfl

theorem finishK_s {fn : Func} {hp0 : List KB} {st : KS} {k : AV → List KB → Nat → Option β} (h : finishK T fn hp0 st k = some r) : ∃ v hp' c, finish T fn (absH hp0) st.abs = some (v, absH hp', c) ∧ k v hp' c = some r := by
  unfold finishK at h
  obtain ⟨vs, h1, h⟩ := resKs_s h
  obtain ⟨h2, h⟩ := bif_k h
  obtain ⟨v, hp', c, h3, h⟩ := outK_s h
  exact ⟨v, hp', c, by unfold finish; simp only [h1, Option.bind_some, h2, cond_true, h3], h⟩

theorem oraAll_none {tbl : Tbl} {mt : MTbl} {f : Nat} (h : tbl f = none) (h' : mt f = none) (vs : List AV) (hp : List Blk) : oraAll T tbl mt f vs hp = none := by
  unfold oraAll mutOf
  rw [h]
  simp only [h']

theorem nbOf_abs {b : KB} {nb : NB} (h : nbOf T b = some nb) : typB T b.abs = some nb := by
  unfold nbOf at h
  split at h
  · rename_i k sz n q hr
    split at h
    · rename_i k' sz' hk
      obtain ⟨hc, h2⟩ := if_k h
      obtain ⟨rfl, rfl, hsz⟩ := hc
      cases h2
      unfold typB
      have hrows : b.abs.rows = (List.range n).map fun i => cellsI k sz (q i) := by
        show b.r.list = _
        rw [hr]
        rfl
      rw [show b.abs.e = b.e from rfl, hk]
      simp only [Option.bind_some]
      rw [if_pos ⟨hsz, by rw [hrows]; exact intRows_ints _ _ _ _⟩, hrows, qOf_ints]
      simp
    · cases h
  · cases h
theorem ofNB_abs (b : NB) : (KB.ofNB b).abs = b.blk := rfl

theorem mutK_s {mt : KMT} {f : Nat} {g : List AV → NB → Option (Bool × AV × NB)} {hp : List KB} {vs : List AV} {k : AV → List KB → Nat → Option β} (hg : mt f = some g) (h : mutK T hp vs g k = some r) :
    ∃ v hp' c, mutOf T (mtOf mt) f vs (absH hp) = some (v, absH hp', c) ∧ k v hp' c = some r := by
  unfold mutK at h
  split at h
  · rename_i i hi
    simp only [Option.bind_eq_some_iff] at h
    obtain ⟨b, hb, h⟩ := h
    obtain ⟨h1, h⟩ := bif_k h
    simp only [Option.bind_eq_some_iff] at h
    obtain ⟨nb, hnb, ⟨t, v, nb'⟩, hy, h⟩ := h
    obtain ⟨h2, h⟩ := bif_k h
    have h2' : t = true := h2
    subst h2'
    refine ⟨_, _, _, ?_, h⟩
    unfold mutOf mtOf
    rw [hg]
    simp only [Option.map_some, hi, Option.bind_some, absH_get, hb, h1, if_true, nbOf_abs hnb, hy, cond_true, absH_set, ofNB_abs]
  · cases h

theorem evalK_s {P : Program} {c : KCfg} : ∀ n, RK (evalK (β := β) P c n) (runF P (c.cfgs P))
  | 0 => fun _ _ _ _ _ h => by cases h
  | n + 1 => by
    intro f vs hp k r h
    unfold evalK at h
    split at h
    · rename_i g hg
      obtain ⟨vs', h1, h⟩ := frzVsK_s h
      simp only [Option.bind_eq_some_iff] at h
      obtain ⟨a, h2, h⟩ := h
      rw [Ans.to_val] at h
      obtain ⟨h3, h⟩ := bif_k h
      have h3' : a.val.1 = true := h3
      refine ⟨_, _, _, runF_ora ?_, h⟩
      show oraAll (tiOf P) (tblOf c.tbl) (mtOf c.mtb) f vs (absH hp) = _
      unfold oraAll oraOf tblOf
      rw [hg]
      simp only [Option.map_some, h1, Option.bind_some, h2, h3', cond_true, absH_len, absH_app, shiftKB_abs]
    · rename_i hg
      have htn : tblOf c.tbl f = none := by unfold tblOf; rw [hg]; rfl
      split at h
      · rename_i g hm
        have hm' : c.mtb f = some g := by
          unfold mtAt at hm
          split at hm
          · cases hm
          · exact hm
        obtain ⟨v, hp', cc, h1, h⟩ := mutK_s hm' h
        refine ⟨v, hp', cc, runF_ora ?_, h⟩
        show oraAll (tiOf P) (tblOf c.tbl) (mtOf c.mtb) f vs (absH hp) = _
        unfold oraAll
        rw [htn]
        exact h1
      · rename_i hm
        have ho : (c.cfgs P).ora f vs (absH hp) = none := by
          show oraAll (tiOf P) (tblOf c.tbl) (mtOf c.mtb) f vs (absH hp) = _
          unfold oraAll
          rw [htn]
          unfold mtAt at hm
          split at hm
          · rename_i hr
            unfold mutOf
            cases hmt : mtOf c.mtb f with
            | none => rfl
            | some g => simp only [hr, oneRef, Option.bind_none]
          · unfold mutOf mtOf
            rw [hm]
            rfl
        split at h
        · rename_i fn hf
          split at h
          · rename_i b hb
            obtain ⟨h1, h⟩ := bif_k h
            obtain ⟨x, s, h2, h⟩ := codeK_s (evalK_s n) b _ _ _ h
            have h2' : runC P (c.cfgs P) ((c.cfgs P) f) b (enterA vs (absH hp)) = some (x, s.abs) := by
              rw [← h2]
              unfold enterA KS.abs
              simp only [absH_len]
              rfl
            cases x with
            | normal =>
              obtain ⟨v, hp', cl, h3, h⟩ := finishK_s h
              exact ⟨v, hp', cl, by rw [runF_eq hf hb h1 ho, h2']; exact h3, h⟩
            | ret =>
              obtain ⟨v, hp', cl, h3, h⟩ := finishK_s h
              exact ⟨v, hp', cl, by rw [runF_eq hf hb h1 ho, h2']; exact h3, h⟩
            | exit i => cases h
          · cases h
        · cases h

end

theorem fnKH_run {P : Program} {c : KCfg} {n : Nat} {m : Rounds} {f : Nat} {vs : List AV} {hp0 : List KB} {v : AV} {new : List KB} (hg : c.tbl f = none) (hm : c.mtb f = none) (h : fnKH P c n m f vs hp0 done = some (v, new, true)) : ∃ cl, runF P (c.cfgs P) f vs (absH hp0) = some (v, absH new, cl) := by
  have ho : (c.cfgs P).ora f vs (absH hp0) = none := oraAll_none (by unfold tblOf; rw [hg]; rfl) (by unfold mtOf; rw [hm]; rfl) _ _
  unfold fnKH at h
  split at h
  · rename_i fn hf
    split at h
    · rename_i b hb
      obtain ⟨h1, h⟩ := bif_k h
      obtain ⟨x, s, h2, h⟩ := codeK_s (evalK_s n) b _ _ _ h
      have h2' : runC P (c.cfgs P) ((c.cfgs P) f) b (enterA vs (absH hp0)) = some (x, s.abs) := by
        rw [← h2]
        unfold enterA KS.abs
        simp only [absH_len]
        rfl
      cases x with
      | normal =>
        obtain ⟨v', hp', cl', h3, h⟩ := finishK_s h
        cases h
        exact ⟨cl', by rw [runF_eq hf hb h1 ho, h2']; exact h3⟩
      | ret =>
        obtain ⟨v', hp', cl', h3, h⟩ := finishK_s h
        cases h
        exact ⟨cl', by rw [runF_eq hf hb h1 ho, h2']; exact h3⟩
      | exit i => cases h
    · cases h
  · cases h

/-! ### tables -/
abbrev KTblOk (P : Program) (kt : KTbl) : Prop := TblOk P (tblOf kt)
abbrev KMTOk (P : Program) (mt : KMT) : Prop := MTblOk P (mtOf mt)

theorem KMTOk.none (P : Program) : KMTOk P (fun _ => none) := by
  intro f g h
  cases h

theorem runF_ok {P : Program} {c : KCfg} (hm : P.follows .mixedOrders = true) (hpl : Plain P) (ht : KTblOk P c.tbl) (hmt : KMTOk P c.mtb) : RecSound P (runF P (c.cfgs P)) := fun f vs hp v hp' cl h hL => by
  obtain ⟨n, hn⟩ := (runF_some P _).1 h
  exact evalF_sound (c.cfgs P) hm hpl (oraAll_keeps _ _ _) (oraAll_sound ht hmt) n f vs hp v hp' cl hn hL

/-- what is run over a sound table is so -/
theorem fnK_sem {P : Program} {c : KCfg} (hm : P.follows .mixedOrders = true) (hpl : Plain P) (ht : KTblOk P c.tbl) (hmt : KMTOk P c.mtb) {n : Nat} {m : Rounds} {f : Nat} {vs : List AV} {v : AV} {new : List KB} (hg : c.tbl f = none) (hgm : c.mtb f = none) (h : fnK P c n m f vs done = some (v, new, true)) : Tells P f vs v (absH new) := by
  obtain ⟨cl, hr⟩ := fnKH_run hg hgm h
  exact ⟨runF P (c.cfgs P), cl, runF_ok hm hpl ht hmt, hr⟩
theorem fnKH_mut {P : Program} {c : KCfg} (hm : P.follows .mixedOrders = true) (hpl : Plain P) (ht : KTblOk P c.tbl) (hmt : KMTOk P c.mtb) {n : Nat} {m : Rounds} {f : Nat} {vs : List AV} {v : AV} {b b' : NB} (hg : c.tbl f = none) (hgm : c.mtb f = none) (h : fnKH P c n m f vs [KB.ofNB b] done = some (v, [KB.ofNB b'], true)) : TellsM P f vs b v b' := by
  obtain ⟨cl, hr⟩ := fnKH_run hg hgm h
  exact ⟨runF P (c.cfgs P), cl, runF_ok hm hpl ht hmt, hr⟩

end Go.Proofs.Ytjdciikfbinchaa.Abs
