/- The abstract machine without a bound on its rounds: equations. -/
import Derived.Test.YtjdciikfbinchaaAbs1
namespace Go.Proofs.Ytjdciikfbinchaa.Abs
open Go

def LeO {α : Type} (a b : Option α) : Prop := ∀ r, a = some r → b = some r
theorem LeO.refl {α : Type} (a : Option α) : LeO a a := fun _ h => h
theorem LeO.none {α : Type} (b : Option α) : LeO Option.none b := fun _ h => by cases h
theorem LeO.bind {α β : Type} {a a' : Option α} {f f' : α → Option β} (h : LeO a a') (k : ∀ x, LeO (f x) (f' x)) : LeO (a.bind f) (a'.bind f') := by
  intro r hr
  cases a with
  | none => cases hr
  | some x => rw [h x rfl]; exact k x r hr
theorem LeO.map {α β : Type} {a a' : Option α} (f : α → β) (h : LeO a a') : LeO (a.map f) (a'.map f) := by
  intro r hr
  cases a with
  | none => cases hr
  | some x => rw [h x rfl]; exact hr
theorem ext_some {α : Type} {a b : Option α} (h : ∀ r, a = some r ↔ b = some r) : a = b := by
  cases a with
  | none => cases b with
    | none => rfl
    | some y => exact ((h y).2 rfl)
  | some x => exact ((h x).1 rfl).symm

def LeR (r r' : Rec) : Prop := ∀ f vs hp, LeO (r f vs hp) (r' f vs hp)

section
variable {T : Nat → Option TI}

theorem callA_mono {r r' : Rec} (h : LeR r r') (hp : List Blk) (n0 f : Nat) (vs : List AV) : LeO (callA r hp n0 f vs) (callA r' hp n0 f vs) := by
  unfold callA
  cases allNoL vs with
  | false => exact LeO.refl _
  | true => exact LeO.map _ (h f vs hp)

theorem eff_mono {r r' : Rec} (h : LeR r r') (cfg : Cfg) (o : Oper) (st : St) : LeO (eff T r cfg o st) (eff T r' cfg o st) := by
  unfold eff
  cases o.op with
  | call c =>
    refine LeO.bind (LeO.refl _) fun vs => ?_
    cases hc : c.callee with
    | value x =>
      cases x with
      | func f => exact callA_mono h _ _ _ _
      | _ =>
        refine LeO.bind (LeO.refl _) fun v => ?_
        cases v <;> first | exact LeO.refl _ | exact callA_mono h _ _ _ _
    | _ => exact LeO.refl _
  | _ => exact LeO.refl _

/-- what a call gives comes from some bound -/
theorem eff_lim {g : Nat → Rec} {r : Rec} (h : ∀ f vs hp x, r f vs hp = some x → ∃ n, g n f vs hp = some x) (cfg : Cfg) (o : Oper) (st : St) (e : Eff)
    (he : eff T r cfg o st = some e) : ∃ n, eff T (g n) cfg o st = some e := by
  have call : ∀ hp n0 f vs e, callA r hp n0 f vs = some e → ∃ n, callA (g n) hp n0 f vs = some e := by
    intro hp n0 f vs e hc
    unfold callA at hc ⊢
    cases hL : allNoL vs with
    | false => rw [hL] at hc; cases hc
    | true =>
      rw [hL] at hc
      simp only [cond_true, Option.map_eq_some_iff] at hc
      obtain ⟨x, hx, rfl⟩ := hc
      obtain ⟨n, hn⟩ := h _ _ _ _ hx
      exact ⟨n, by simp [hn]⟩
  unfold eff at he ⊢
  cases ho : o.op with
  | call c =>
    rw [ho] at he
    simp only at he ⊢
    cases ha : args st.env c.args.toList with
    | none => rw [ha] at he; cases he
    | some vs =>
      rw [ha] at he
      simp only [Option.bind_some] at he ⊢
      cases hc : c.callee with
      | value x =>
        rw [hc] at he
        cases x with
        | func f => exact call _ _ _ _ _ he
        | tmp t =>
          simp only at he ⊢
          cases hv : opd st.env (.tmp t) with
          | none => rw [hv] at he; cases he
          | some v =>
            rw [hv] at he
            simp only [Option.bind_some] at he ⊢
            cases v with
            | fn f caps => exact call _ _ _ _ _ he
            | _ => cases he
        | const k =>
          simp only at he ⊢
          cases hv : opd st.env (.const k) with
          | none => rw [hv] at he; cases he
          | some v =>
            rw [hv] at he
            simp only [Option.bind_some] at he ⊢
            cases v with
            | fn f caps => exact call _ _ _ _ _ he
            | _ => cases he
        | global k => simp [opd] at he
      | _ => exact ⟨0, by rw [hc] at he; exact he⟩
  | _ => exact ⟨0, by rw [ho] at he; exact he⟩

theorem stepA_mono {r r' : Rec} (h : LeR r r') (cfg : Cfg) (ops : Array Oper) (o : Oper) (st : St) : LeO (stepA T r cfg ops o st) (stepA T r' cfg ops o st) := by
  unfold stepA
  refine LeO.bind (LeO.refl _) fun g => ?_
  cases g with
  | true => exact LeO.map _ (eff_mono h _ _ _)
  | false => exact LeO.refl _

theorem runOps_mono {r r' : Rec} (h : LeR r r') (cfg : Cfg) (ops : Array Oper) (l : List Oper) : ∀ st, LeO (runOps T r cfg ops l st) (runOps T r' cfg ops l st) := by
  induction l with
  | nil => exact fun st => LeO.refl _
  | cons o l ih => exact fun st => LeO.bind (stepA_mono h _ _ _ _) fun st => ih st

theorem stepD_mono {r r' : Rec} (h : LeR r r') (cfg : Cfg) (ops : Array Oper) (o : Oper) (st : St) : LeO (stepD T r cfg ops o st) (stepD T r' cfg ops o st) := by
  unfold stepD
  refine LeO.bind (LeO.refl _) fun g => ?_
  cases g with
  | true => exact LeO.bind (eff_mono h _ _ _) fun _ => LeO.refl _
  | false => exact LeO.refl _

theorem runD_mono {r r' : Rec} (h : LeR r r') (cfg : Cfg) (ops : Array Oper) (l : List Oper) : ∀ st, LeO (runD T r cfg ops l st) (runD T r' cfg ops l st) := by
  induction l with
  | nil => exact fun st => LeO.refl _
  | cons o l ih => exact fun st => LeO.bind (stepD_mono h _ _ _ _) fun x => LeO.map _ (ih x.1)

theorem region_mono {r r' : Rec} (h : LeR r r') (cfg : Cfg) (ops : Array Oper) (d : Bool) (st : St) : LeO (region T r cfg ops d st) (region T r' cfg ops d st) := by
  unfold region
  cases d with
  | true => cases orderOk ops with
    | true => exact LeO.bind (runD_mono h _ _ _ _) fun _ => LeO.refl _
    | false => exact LeO.refl _
  | false => exact runOps_mono h _ _ _ _

variable {g : Nat → Rec} {r : Rec}

theorem LeR.chain (hg : ∀ n, LeR (g n) (g (n + 1))) {n m : Nat} (h : n ≤ m) : LeR (g n) (g m) := by
  induction h with
  | refl => exact fun _ _ _ => LeO.refl _
  | step _ ih => exact fun f vs hp x hx => hg _ f vs hp x (ih f vs hp x hx)

theorem runOps_lim (hg : ∀ n, LeR (g n) (g (n + 1))) (h : ∀ f vs hp x, r f vs hp = some x → ∃ n, g n f vs hp = some x) (cfg : Cfg) (ops : Array Oper) (l : List Oper) :
    ∀ st st', runOps T r cfg ops l st = some st' → ∃ n, runOps T (g n) cfg ops l st = some st' := by
  induction l with
  | nil => exact fun st st' hs => ⟨0, hs⟩
  | cons o l ih =>
    intro st st' hs
    simp only [runOps, Option.bind_eq_some_iff] at hs
    obtain ⟨s1, h1, h2⟩ := hs
    obtain ⟨m, hm⟩ := ih _ _ h2
    have hstep : ∃ n, stepA T (g n) cfg ops o st = some s1 := by
      unfold stepA at h1 ⊢
      cases hgd : guardA ops o st with
      | none => rw [hgd] at h1; cases h1
      | some b =>
        rw [hgd] at h1
        simp only [Option.bind_some] at h1 ⊢
        cases b with
        | false => exact ⟨0, h1⟩
        | true =>
          simp only [cond_true, Option.map_eq_some_iff] at h1
          obtain ⟨e, he, rfl⟩ := h1
          obtain ⟨n, hn⟩ := eff_lim h _ _ _ _ he
          exact ⟨n, by simp [hn]⟩
    obtain ⟨n, hn⟩ := hstep
    refine ⟨max n m, ?_⟩
    simp only [runOps]
    rw [stepA_mono (LeR.chain hg (Nat.le_max_left n m)) _ _ _ _ _ hn]
    exact runOps_mono (LeR.chain hg (Nat.le_max_right n m)) _ _ _ _ _ hm

theorem runD_lim (hg : ∀ n, LeR (g n) (g (n + 1))) (h : ∀ f vs hp x, r f vs hp = some x → ∃ n, g n f vs hp = some x) (cfg : Cfg) (ops : Array Oper) (l : List Oper) :
    ∀ st st', runD T r cfg ops l st = some st' → ∃ n, runD T (g n) cfg ops l st = some st' := by
  induction l with
  | nil => exact fun st st' hs => ⟨0, hs⟩
  | cons o l ih =>
    intro st st' hs
    simp only [runD, Option.bind_eq_some_iff, Option.map_eq_some_iff] at hs
    obtain ⟨⟨s1, f1⟩, h1, ⟨s2, fs⟩, h2, rfl⟩ := hs
    obtain ⟨m, hm⟩ := ih _ _ h2
    have hstep : ∃ n, stepD T (g n) cfg ops o st = some (s1, f1) := by
      unfold stepD at h1 ⊢
      cases hgd : guardA ops o st with
      | none => rw [hgd] at h1; cases h1
      | some b =>
        rw [hgd] at h1
        simp only [Option.bind_some] at h1 ⊢
        cases b with
        | false => exact ⟨0, h1⟩
        | true =>
          simp only [cond_true, Option.bind_eq_some_iff] at h1
          obtain ⟨e, he, h3⟩ := h1
          obtain ⟨n, hn⟩ := eff_lim h _ _ _ _ he
          exact ⟨n, by simp [hn, h3]⟩
    obtain ⟨n, hn⟩ := hstep
    refine ⟨max n m, ?_⟩
    simp only [runD]
    rw [stepD_mono (LeR.chain hg (Nat.le_max_left n m)) _ _ _ _ _ hn]
    simp only [Option.bind_some]
    rw [runD_mono (LeR.chain hg (Nat.le_max_right n m)) _ _ _ _ _ hm]
    rfl

theorem region_lim (hg : ∀ n, LeR (g n) (g (n + 1))) (h : ∀ f vs hp x, r f vs hp = some x → ∃ n, g n f vs hp = some x) (cfg : Cfg) (ops : Array Oper) (d : Bool)
    (st st' : St) (hs : region T r cfg ops d st = some st') : ∃ n, region T (g n) cfg ops d st = some st' := by
  unfold region at hs ⊢
  cases d with
  | false => exact runOps_lim hg h _ _ _ _ _ hs
  | true =>
    cases ho : orderOk ops with
    | false => rw [ho] at hs; cases hs
    | true =>
      rw [ho] at hs
      simp only [cond_true, Option.bind_eq_some_iff] at hs ⊢
      obtain ⟨x, hx, h2⟩ := hs
      obtain ⟨n, hn⟩ := runD_lim hg h _ _ _ _ _ hx
      exact ⟨n, x, hn, h2⟩

theorem loopA_mono {nm : St → St} {b b' : St → Option (Ex × St)} (h : ∀ st, LeO (b st) (b' st)) (n : Nat) : ∀ st, LeO (loopA nm b n st) (loopA nm b' (n + 1) st) := by
  induction n with
  | zero => exact fun st => LeO.none _
  | succ n ih =>
    intro st x hx
    rw [loopA] at hx ⊢
    cases hb : b (nm st) with
    | none => rw [hb] at hx; cases hx
    | some p =>
      rw [h _ _ hb]
      rw [hb] at hx
      obtain ⟨e, s⟩ := p
      cases e with
      | normal => exact ih _ _ hx
      | _ => exact hx

theorem evalC_mono {r r' : Rec} (h : LeR r r') (n : Nat) (cfg : Cfg) (c : Code) : ∀ st, LeO (evalC T n r cfg c st) (evalC T (n + 1) r' cfg c st) := by
  induction c with
  | region id ops d => exact fun st => LeO.map _ (region_mono h _ _ _ _)
  | seq a b iha ihb =>
    intro st x hx
    simp only [evalC] at hx ⊢
    cases ha : evalC T n r cfg a st with
    | none => rw [ha] at hx; cases hx
    | some p =>
      rw [iha _ _ ha]
      rw [ha] at hx
      obtain ⟨e, s⟩ := p
      cases e with
      | normal => exact ihb _ _ hx
      | _ => exact hx
  | cond c a b iha ihb =>
    intro st x hx
    simp only [evalC] at hx ⊢
    split at hx
    · rename_i t ht
      cases t with
      | true => exact iha _ _ hx
      | false => exact ihb _ _ hx
    · cases hx
  | block id c ih =>
    intro st x hx
    simp only [evalC] at hx ⊢
    cases hc : evalC T n r cfg c st with
    | none => rw [hc] at hx; cases hx
    | some p =>
      rw [ih _ _ hc]
      rw [hc] at hx
      exact hx
  | loop c ih => exact fun st => loopA_mono ih n st
  | _ => exact fun st => LeO.refl _

end

theorem evalF_succ (P : Program) (cfg : Cfgs) (n f : Nat) (vs : List AV) (hp : List Blk) : evalF P cfg (n + 1) f vs hp = match cfg.ora f vs hp with
    | some y => some y
    | none => match P.funcs[f]? with
      | some fn => match fn.body with
        | some c =>
          bif codeOk (max fn.ntmps vs.length) c then
            match evalC (tiOf P) n (evalF P cfg n) (cfg f) c (enterA vs hp) with
            | some (.normal, st) | some (.ret, st) => finish (tiOf P) fn hp st
            | _ => none
          else none
        | none => none
      | none => none := rfl

theorem evalF_mono (P : Program) (cfg : Cfgs) : ∀ n, LeR (evalF P cfg n) (evalF P cfg (n + 1))
  | 0 => fun _ _ _ => LeO.none _
  | n + 1 => by
    intro f vs hp x hx
    rw [evalF_succ] at hx ⊢
    cases ho : cfg.ora f vs hp with
    | some y => rw [ho] at hx; exact hx
    | none =>
      rw [ho] at hx
      simp only at hx ⊢
      split at hx
      · split at hx
        · cases hk : codeOk (max _ vs.length) _ with
          | false => rw [hk] at hx; cases hx
          | true =>
            rw [hk] at hx
            simp only [cond_true] at hx ⊢
            split at hx
            · rename_i hs; rw [evalC_mono (evalF_mono P cfg n) _ _ _ _ _ hs]; exact hx
            · rename_i hs; rw [evalC_mono (evalF_mono P cfg n) _ _ _ _ _ hs]; exact hx
            · cases hx
        · cases hx
      · cases hx

/-- what a chain comes to -/
noncomputable def lim {α : Type} (g : Nat → Option α) : Option α :=
  open Classical in if h : ∃ n r, g n = some r then g h.choose else none
theorem lim_some {α : Type} {g : Nat → Option α} (hg : ∀ n, LeO (g n) (g (n + 1))) {x : α} : lim g = some x ↔ ∃ n, g n = some x := by
  have up : ∀ n m, n ≤ m → LeO (g n) (g m) := by
    intro n m h
    induction h with
    | refl => exact LeO.refl _
    | step _ ih => exact fun r hr => hg _ _ (ih _ hr)
  unfold lim
  constructor
  · intro h
    split at h
    · rename_i hx; exact ⟨_, h⟩
    · cases h
  · rintro ⟨n, hn⟩
    have hx : ∃ n r, g n = some r := ⟨n, x, hn⟩
    rw [dif_pos hx]
    obtain ⟨r, hr⟩ := hx.choose_spec
    have h1 := up _ _ (Nat.le_max_left n hx.choose) _ hn
    have h2 := up _ _ (Nat.le_max_right n hx.choose) _ hr
    rw [hr, ← h2, h1]

section
variable (P : Program) (cfg : Cfgs)

noncomputable def runF : Rec := fun f vs hp => lim fun n => evalF P cfg n f vs hp
noncomputable def runC (c : Cfg) (k : Code) (st : St) : Option (Ex × St) := lim fun n => evalC (tiOf P) n (evalF P cfg n) c k st

theorem runF_some {f : Nat} {vs : List AV} {hp : List Blk} {x : AV × List Blk × Nat} : runF P cfg f vs hp = some x ↔ ∃ n, evalF P cfg n f vs hp = some x :=
  lim_some fun n => evalF_mono P cfg n f vs hp
theorem runC_some {c : Cfg} {k : Code} {st : St} {x : Ex × St} : runC P cfg c k st = some x ↔ ∃ n, evalC (tiOf P) n (evalF P cfg n) c k st = some x :=
  lim_some fun n => evalC_mono (evalF_mono P cfg n) n c k st
theorem up_C {c : Cfg} {k : Code} {st : St} {x : Ex × St} {n m : Nat} (hm : n ≤ m) (h : evalC (tiOf P) n (evalF P cfg n) c k st = some x) : evalC (tiOf P) m (evalF P cfg m) c k st = some x := by
  induction hm with
  | refl => exact h
  | step _ ih => exact evalC_mono (evalF_mono P cfg _) _ _ _ _ _ ih

variable {P} {cfg}
variable {c : Cfg} {st : St}

theorem runC_skip : runC P cfg c .skip st = some (.normal, st) := (runC_some P cfg).2 ⟨0, rfl⟩
theorem runC_exit {i : Nat} : runC P cfg c (.exit i) st = some (.exit i, st) := (runC_some P cfg).2 ⟨0, rfl⟩
theorem runC_ret : runC P cfg c .ret st = some (.ret, st) := (runC_some P cfg).2 ⟨0, rfl⟩
theorem runC_region {i : Nat} {ops : Array Oper} {d : Bool} : runC P cfg c (.region i ops d) st = (region (tiOf P) (runF P cfg) c ops d st).map fun st => (.normal, st) := by
  refine ext_some fun x => ?_
  rw [runC_some]
  simp only [evalC, Option.map_eq_some_iff]
  constructor
  · rintro ⟨n, s, hs, rfl⟩
    exact ⟨s, region_mono (fun f vs hp y hy => (runF_some P cfg).2 ⟨n, hy⟩) _ _ _ _ _ hs, rfl⟩
  · rintro ⟨s, hs, rfl⟩
    obtain ⟨n, hn⟩ := region_lim (evalF_mono P cfg) (fun f vs hp y hy => (runF_some P cfg).1 hy) _ _ _ _ _ hs
    exact ⟨n, s, hn, rfl⟩
theorem runC_seq {a b : Code} : runC P cfg c (.seq a b) st = match runC P cfg c a st with
    | some (.normal, st) => runC P cfg c b st
    | r => r := by
  refine ext_some fun x => ?_
  rw [runC_some]
  constructor
  · rintro ⟨n, hn⟩
    simp only [evalC] at hn
    cases ha : evalC (tiOf P) n (evalF P cfg n) c a st with
    | none => rw [ha] at hn; cases hn
    | some p =>
      rw [ha] at hn
      rw [(runC_some P cfg).2 ⟨n, ha⟩]
      obtain ⟨e, s⟩ := p
      cases e with
      | normal => exact (runC_some P cfg).2 ⟨n, hn⟩
      | _ => exact hn
  · intro h
    cases ha : runC P cfg c a st with
    | none => rw [ha] at h; cases h
    | some p =>
      rw [ha] at h
      obtain ⟨n, hn⟩ := (runC_some P cfg).1 ha
      obtain ⟨e, s⟩ := p
      cases e with
      | normal =>
        obtain ⟨m, hm⟩ := (runC_some P cfg).1 h
        refine ⟨max n m, ?_⟩
        simp only [evalC]
        rw [up_C P cfg (Nat.le_max_left n m) hn]
        exact up_C P cfg (Nat.le_max_right n m) hm
      | _ => exact ⟨n, by simp only [evalC]; rw [hn]; exact h⟩
theorem runC_cond {x : Operand} {a b : Code} : runC P cfg c (.cond x a b) st = match opd st.env x with
    | some (.bool t) => if t then runC P cfg c a st else runC P cfg c b st
    | _ => none := by
  refine ext_some fun y => ?_
  rw [runC_some]
  simp only [evalC]
  split
  · rename_i t ht
    rw [ht]
    cases t
    · simp only [Bool.false_eq_true, if_false]; exact (runC_some P cfg).symm
    · simp only [if_true]; exact (runC_some P cfg).symm
  · rename_i h
    constructor
    · rintro ⟨n, hn⟩; cases hn
    · intro hn
      split at hn
      · rename_i t ht; exact absurd ht (h t)
      · cases hn
theorem runC_block {i : Nat} {k : Code} : runC P cfg c (.block i k) st = match runC P cfg c k st with
    | some (.exit j, st) => if j = i then some (.normal, st) else some (.exit j, st)
    | r => r := by
  refine ext_some fun x => ?_
  rw [runC_some]
  constructor
  · rintro ⟨n, hn⟩
    simp only [evalC] at hn
    cases ha : evalC (tiOf P) n (evalF P cfg n) c k st with
    | none => rw [ha] at hn; cases hn
    | some p => rw [ha] at hn; rw [(runC_some P cfg).2 ⟨n, ha⟩]; exact hn
  · intro h
    cases ha : runC P cfg c k st with
    | none => rw [ha] at h; cases h
    | some p =>
      rw [ha] at h
      obtain ⟨n, hn⟩ := (runC_some P cfg).1 ha
      exact ⟨n, by simp only [evalC]; rw [hn]; exact h⟩
theorem runC_loop {k : Code} : runC P cfg c (.loop k) st = match runC P cfg c k (norm c k st) with
    | some (.normal, st) => runC P cfg c (.loop k) st
    | r => r := by
  refine ext_some fun x => ?_
  rw [runC_some]
  constructor
  · rintro ⟨n, hn⟩
    simp only [evalC] at hn
    cases n with
    | zero => cases hn
    | succ n =>
      rw [loopA] at hn
      cases ha : evalC (tiOf P) (n + 1) (evalF P cfg (n + 1)) c k (norm c k st) with
      | none => rw [ha] at hn; cases hn
      | some p =>
        rw [ha] at hn
        rw [(runC_some P cfg).2 ⟨n + 1, ha⟩]
        obtain ⟨e, s⟩ := p
        cases e with
        | normal => exact (runC_some P cfg).2 ⟨n + 1, by simp only [evalC]; exact loopA_mono (fun st => LeO.refl _) n s x hn⟩
        | _ => exact hn
  · intro h
    cases ha : runC P cfg c k (norm c k st) with
    | none => rw [ha] at h; cases h
    | some p =>
      rw [ha] at h
      obtain ⟨n, hn⟩ := (runC_some P cfg).1 ha
      obtain ⟨e, s⟩ := p
      cases e with
      | normal =>
        obtain ⟨m, hm⟩ := (runC_some P cfg).1 h
        have h1 := up_C P cfg (Nat.le_succ_of_le (Nat.le_max_left n m)) hn
        have h2 := up_C P cfg (Nat.le_max_right n m) hm
        refine ⟨max n m + 1, ?_⟩
        simp only [evalC] at h2 ⊢
        rw [loopA, h1]
        have : ∀ j s, loopA (norm c k) (evalC (tiOf P) (max n m) (evalF P cfg (max n m)) c k) j s = some x → loopA (norm c k) (evalC (tiOf P) (max n m + 1) (evalF P cfg (max n m + 1)) c k) j s = some x := by
          intro j
          induction j with
          | zero => intro s hs; cases hs
          | succ j ih =>
            intro s hs
            rw [loopA] at hs ⊢
            cases hb : evalC (tiOf P) (max n m) (evalF P cfg (max n m)) c k (norm c k s) with
            | none => rw [hb] at hs; cases hs
            | some q =>
              rw [hb] at hs
              rw [evalC_mono (evalF_mono P cfg _) _ _ _ _ _ hb]
              obtain ⟨e, s'⟩ := q
              cases e with
              | normal => exact ih _ hs
              | _ => exact hs
        exact this _ _ h2
      | _ => exact ⟨n + 1, by simp only [evalC]; rw [loopA, up_C P cfg (Nat.le_succ n) hn]; exact h⟩

theorem runF_eq {f : Nat} {fn : Func} {k : Code} {vs : List AV} {hp : List Blk} (hf : P.funcs[f]? = some fn) (hb : fn.body = some k) (hk : codeOk (max fn.ntmps vs.length) k = true) (ho : cfg.ora f vs hp = none) :
    runF P cfg f vs hp = match runC P cfg (cfg f) k (enterA vs hp) with
    | some (.normal, st) | some (.ret, st) => finish (tiOf P) fn hp st
    | _ => none := by
  refine ext_some fun x => ?_
  rw [runF_some]
  constructor
  · rintro ⟨n, hn⟩
    cases n with
    | zero => cases hn
    | succ n =>
      simp only [evalF, ho, hf, hb, hk, cond_true] at hn
      cases ha : evalC (tiOf P) n (evalF P cfg n) (cfg f) k (enterA vs hp) with
      | none => rw [ha] at hn; cases hn
      | some p => rw [ha] at hn; rw [(runC_some P cfg).2 ⟨n, ha⟩]; exact hn
  · intro h
    cases ha : runC P cfg (cfg f) k (enterA vs hp) with
    | none => rw [ha] at h; cases h
    | some p =>
      rw [ha] at h
      obtain ⟨n, hn⟩ := (runC_some P cfg).1 ha
      exact ⟨n + 1, by simp only [evalF, ho, hf, hb, hk, cond_true]; rw [hn]; exact h⟩

theorem runF_ora {f : Nat} {vs : List AV} {hp : List Blk} {y : AV × List Blk × Nat} (ho : cfg.ora f vs hp = some y) : runF P cfg f vs hp = some y :=
  (runF_some P cfg).2 ⟨1, by simp only [evalF, ho]⟩

end
end Go.Proofs.Ytjdciikfbinchaa.Abs
