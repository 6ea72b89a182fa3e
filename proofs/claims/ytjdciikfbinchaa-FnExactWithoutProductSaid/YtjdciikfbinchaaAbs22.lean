/- The abstract machine: a call is sound. -/
import Derived.Test.YtjdciikfbinchaaAbs21
namespace Go.Proofs.Ytjdciikfbinchaa.Abs
open Go

section
variable {P : Program} {M : Mem} {ρ : Rho} {β : Nat → Option Nat} {hp : List Blk} {lo : List (Nat × List AV)} {w : World}

/-! ### entering -/
def shiftL (K : Nat) (lo : List (Nat × List AV)) : List (Nat × List AV) := lo.map fun p => (p.1 + K, p.2)
theorem shiftL_get (K : Nat) (lo : List (Nat × List AV)) (d : Nat) : (shiftL K lo).lookup d = if K ≤ d then lo.lookup (d - K) else none := by
  induction lo with
  | nil => simp [shiftL]
  | cons p lo ih =>
    obtain ⟨i, v⟩ := p
    simp only [shiftL, List.map_cons, List.lookup_cons] at ih ⊢
    by_cases hd : K ≤ d
    · rw [if_pos hd] at ih ⊢
      by_cases hi : d - K = i
      · have h1 : (d == i + K) = true := by simp; omega
        have h2 : (d - K == i) = true := by simpa using hi
        simp only [h1, h2]
      · have h1 : (d == i + K) = false := by simp; omega
        have h2 : (d - K == i) = false := by simpa using hi
        simp only [h1, h2]
        exact ih
    · rw [if_neg hd] at ih ⊢
      have h1 : (d == i + K) = false := by simp; omega
      simp only [h1]
      exact ih

theorem zipEnv_get : ∀ (vs : List AV) (i t : Nat), get (zipEnv vs i) t = if i ≤ t ∧ t < i + vs.length then vs.getD (t - i) .undef else .undef
  | [], i, t => by
    rw [if_neg (by simp)]; rfl
  | v :: vs, i, t => by
    have ih := zipEnv_get vs (i + 1) t
    simp only [zipEnv, get, List.lookup_cons] at ih ⊢
    by_cases h : t = i
    · subst h; simp
    · have : (t == i) = false := by simpa using h
      simp only [this]
      rw [ih]
      simp only [List.length_cons]
      by_cases hc : i ≤ t ∧ t < i + (vs.length + 1)
      · rw [if_pos (by omega), if_pos hc]
        have : t - i = (t - (i + 1)) + 1 := by omega
        rw [this]
        simp
      · rw [if_neg (by omega), if_neg hc]

theorem Real.shift (h : Real M ρ β hp lo w.heap) (K : Nat) : Real M ρ (fun d => if K ≤ d then β (d - K) else none) hp (shiftL K lo) w.heap := by
  refine ⟨h.mem, h.blk, h.inj, h.dom, fun d g cs hd hl => ?_, fun d g hd => ?_, fun d d' g hd hd' => ?_, fun d g k l hd hl => ?_⟩
  · rw [shiftL_get] at hl
    split at hd
    · rename_i hk; rw [if_pos hk] at hl; exact h.var _ g cs hd hl
    · cases hd
  · split at hd
    · exact h.vlt _ g hd
    · cases hd
  · split at hd
    · split at hd'
      · have := h.vinj _ _ g hd hd'; omega
      · cases hd'
    · cases hd
  · split at hd
    · exact h.vdis _ g k l hd hl
    · cases hd

theorem Real.unshift {K : Nat} {M' : Mem} {ρ' : Rho} {β2 : Nat → Option Nat} {hp' : List Blk} {lo2 : List (Nat × List AV)} {H : Array Obj} (h : Real M' ρ' β2 hp' lo2 H) (hβ : ∀ d, K ≤ d → β2 d = β (d - K)) (hl : ∀ d, K ≤ d → lo2.lookup d = lo.lookup (d - K)) : Real M' ρ' β hp' lo H := by
  have hb : ∀ d, β2 (d + K) = β d := fun d => by rw [hβ _ (by omega), Nat.add_sub_cancel]
  have hc : ∀ d, lo2.lookup (d + K) = lo.lookup d := fun d => by rw [hl _ (by omega), Nat.add_sub_cancel]
  refine ⟨h.mem, h.blk, h.inj, h.dom, fun d g cs hd hx => h.var (d + K) g cs (by rw [hb]; exact hd) (by rw [hc]; exact hx), fun d g hd => h.vlt (d + K) g (by rw [hb]; exact hd), fun d d' g hd hd' => ?_, fun d g k l hd hx => h.vdis (d + K) g k l (by rw [hb]; exact hd) hx⟩
  have := h.vinj (d + K) (d' + K) g (by rw [hb]; exact hd) (by rw [hb]; exact hd')
  omega

theorem enter_good (K n : Nat) (vs : List AV) (xs : Array Value) (hK : K = max n vs.length) (hR : Real M ρ β hp lo w.heap) (hl : xs.size = vs.length) (hx : ∀ (j : Nat) x u, vs[j]? = some x → xs[j]? = some u → VRel M ρ hp x u) :
    Good ⟨K, β, lo, M, ρ, hp, w⟩ (enterA vs hp) { tmps := xs ++ Array.replicate (n - xs.size) undef, defers := [] } w := by
  refine ⟨M, ρ, fun d => if K ≤ d then β (d - K) else none, SubM.refl _, Ext.refl _ _, ⟨⟨shiftL K lo, hR.shift K, fun d v h => (by cases h), fun d hd => by rw [shiftL_get, if_pos hd]⟩, fun d hd => by simp [hd], fun d v h => (by cases h), fun t => ?_, ?_, rfl⟩, Adv.refl _⟩
  · show ERel M ρ _ hp (get (zipEnv vs 0) t) _
    rw [zipEnv_get]
    split
    · rename_i ht
      have ht' : t < vs.length := by omega
      have hts : t < xs.size := by omega
      refine .inr (hx t _ _ (by rw [Nat.sub_zero, List.getD_eq_getElem?_getD, List.getElem?_eq_getElem ht']; rfl) ?_)
      rw [Array.getD_eq_getD_getElem?, Array.getElem?_append_left hts]
      simp [hts]
    · exact .inr (.undef _)
  · show K ≤ (xs ++ Array.replicate (n - xs.size) undef).size
    simp only [Array.size_append, Array.size_replicate]
    omega

/-! ### leaving -/
theorem resAs_rel {st : St} {tmps : Array Value} (hR : Real M ρ β st.hp lo w.heap) (hlo : ∀ d v, st.lo.lookup d = some v → lo.lookup d = some v) (hE : EnvR M ρ β st.hp st.env tmps) : ∀ (rs : List ResultVar) (vs : List AV), resAs (tiOf P) st rs = some vs → ∃ us : List Value, us.length = vs.length ∧
    (∀ g : ResultVar → Sem Value, (∀ t, g (.tmp t) = pure (tmps.getD t undef)) → (∀ a t, g (.cell a t) = do loadVar t (← asAddr (tmps.getD a undef))) → (rs.mapM g).run P w = .ok us w) ∧ ∀ (j : Nat) x u, vs[j]? = some x → us[j]? = some u → ERel M ρ β st.hp x u
  | [], vs, h => by cases h; exact ⟨[], rfl, fun g _ _ => by simp, fun j x u h => by simp at h⟩
  | r :: rs, vs, h => by
    simp only [resAs] at h
    split at h
    · rename_i v ws hv hw
      cases h
      obtain ⟨us, h1, h2, h3⟩ := resAs_rel hR hlo hE rs ws hw
      cases r with
      | cell a t =>
        obtain ⟨u, hu, hr⟩ := loadA_rel hR (loadA_lo (fun d _ _ r hr => hlo d r hr) hv) (hE a)
        obtain ⟨ad, had⟩ : ∃ ad, tmps.getD a undef = .pointer (some ad) := by
          have := hE a
          cases hg : get st.env a with
          | lptr d c => rw [hg] at this; obtain ⟨g, _, h⟩ := this.lptr_inv; exact ⟨_, h⟩
          | vp r c =>
            rw [hg] at this
            generalize hx : tmps.getD a undef = x at this
            cases this.v (fun _ _ e => by cases e)
            exact ⟨_, rfl⟩
          | ptr k r c tt =>
            rw [hg] at this
            simp only [resA, hg, loadA, rowAt, Option.bind_eq_some_iff] at hv
            obtain ⟨_, ⟨b, hb, _⟩, _⟩ := hv
            obtain ⟨hb1, hb2⟩ := fresh_some hb
            generalize hx : tmps.getD a undef = x at this
            cases this.v (fun _ _ e => by cases e) with
            | @ptr _ _ _ _ _ b' pl hb' hl hle _ hpt =>
              rw [hb1] at hb'
              cases hb'
              exact ⟨_, hpt hb2⟩
          | _ => simp only [resA, hg, loadA, rowAt, Option.bind_none] at hv; cases hv
        rw [had] at hu
        have hu' : (loadVar t ad).run P w = .ok u w := by simpa [Instr.loadAt, Instr.sureAddr] using hu
        refine ⟨u :: us, by simp [h1], fun g hg1 hg2 => ?_, fun j x u' hx hu2 => ?_⟩
        · rw [List.mapM_cons, hg2, had]
          simp only [asAddr, Sem.run_bind, Sem.run_pure, Result.andThen_ok, hu', h2 g hg1 hg2]
        · cases j with
          | zero => simp at hx hu2; subst hx; subst hu2; exact .inr hr
          | succ j => exact h3 j x u' (by simpa using hx) (by simpa using hu2)
      | tmp t =>
        simp only [resA, Option.some.injEq] at hv
        subst hv
        refine ⟨tmps.getD t undef :: us, by simp [h1], fun g hg hg2 => ?_, fun j x u hx hu => ?_⟩
        · rw [List.mapM_cons, hg]
          simp only [Sem.run_bind, Sem.run_pure, Result.andThen_ok, h2 g hg hg2]
        · cases j with
          | zero => simp at hx hu; subst hx; subst hu; rw [← Array.getD_eq_getD_getElem?]; exact hE t
          | succ j => exact h3 j x u (by simpa using hx) (by simpa using hu)
    · cases h

theorem results_rel {fn : Func} {st : St} {tmps : Array Value} {vs : List AV} (hR : Real M ρ β st.hp lo w.heap) (hlo : ∀ d v, st.lo.lookup d = some v → lo.lookup d = some v) (hE : EnvR M ρ β st.hp st.env tmps) (h : resAs (tiOf P) st fn.results.toList = some vs) (hL : allNoL vs = true) :
    ∃ u, (results fn tmps).run P w = .ok u w ∧ VRel M ρ st.hp (one vs) u := by
  obtain ⟨us, h1, h2, h3⟩ := resAs_rel (P := P) (w := w) hR hlo hE _ _ h
  refine ⟨if h : us.toArray.size = 1 then us.toArray[0] else .tuple us.toArray, ?_, ?_⟩
  · unfold results
    rw [← Array.toArray_toList (xs := fn.results)]
    simp only [List.mapM_toArray]
    rw [map_eq_pure_bind]
    simp only [Sem.run_bind, Sem.run_pure]
    rw [h2 _ (fun t => rfl) (fun a t => rfl)]
    rfl
  · have hv : ∀ (j : Nat) x u, vs[j]? = some x → us[j]? = some u → VRel M ρ st.hp x u := fun j x u hx hu => (h3 j x u hx hu).noL (allNoL_get vs hL j x hx)
    match vs, us, h1, hv with
    | [v], [u], _, hv => exact hv 0 v u rfl rfl
    | [], us, h1, hv =>
      have : us = [] := List.eq_nil_of_length_eq_zero h1
      subst this
      exact .tup rfl fun j x u hx => by simp at hx
    | v1 :: v2 :: vs, us, h1, hv =>
      rw [dif_neg (by simp at h1 ⊢; omega)]
      exact .tup (by simpa using h1) fun j x u hx hu => hv j x u hx (by simpa using hu)

/-- the names that 'ren' comes to are all the names there are, and the renamed value is told of a heap where the block has its new name -/
theorem ren_rel {ρ' : Rho} {hp' : List Blk} {k k' : Nat} (hb : hp'[k']? = hp[k]?) (hl : ρ' k' = ρ k) {v : AV} {u : Value} (h : VRel M ρ hp v u) : (∀ ks, tops v = some ks → refs v = ks ∧ ((∀ i ∈ ks, i = k) → VRel M ρ' hp' (ren k k' v) u)) := by
  have flat : ∀ {v : AV} {u : Value}, VRel M ρ hp v u → (∀ ks, flatTops (refs v) = some ks → refs v = ks ∧ VRel M ρ' hp' v u) := by
    intro v u h ks hk
    cases hr : refs v with
    | nil => rw [hr] at hk; cases hk; exact ⟨rfl, h.loc fun i hi => by rw [hr] at hi; cases hi⟩
    | cons x l => rw [hr] at hk; cases hk
  have list : ∀ {cs : List AV} {c : Array Value}, c.size = cs.length → (∀ (j : Nat) x u, cs[j]? = some x → c[j]? = some u → ∀ ks, tops x = some ks → refs x = ks ∧ ((∀ i ∈ ks, i = k) → VRel M ρ' hp' (ren k k' x) u)) →
      ∀ ks, topsL cs = some ks → refsL cs = ks ∧ ((∀ i ∈ ks, i = k) → ∀ (j : Nat) x u, (renL k k' cs)[j]? = some x → c[j]? = some u → VRel M ρ' hp' x u) ∧ (renL k k' cs).length = cs.length := by
    intro cs
    induction cs with
    | nil => intro c hs _ ks hk; cases hk; exact ⟨rfl, fun _ j x u hj => by simp [renL] at hj, rfl⟩
    | cons y cs ih =>
      intro c hs hx ks hk
      simp only [topsL] at hk
      split at hk
      · rename_i ka kb h1 h2
        cases hk
        have hpos : 0 < c.size := by rw [hs]; simp
        have hc0 : c[0]? = some c[0] := by simp
        obtain ⟨r1, r2⟩ := hx 0 y c[0] rfl hc0 ka h1
        obtain ⟨s1, s2, s3⟩ := ih (c := c.extract 1 c.size) (by simp [hs]) (fun j x u hj hu => hx (j + 1) x u (by simpa using hj) (by
          rw [Array.getElem?_extract] at hu
          split at hu
          · rw [Nat.add_comm]; exact hu
          · cases hu)) kb h2
        refine ⟨by simp [refsL, r1, s1], fun hall j x u hj hu => ?_, by simp [renL, s3]⟩
        simp only [renL] at hj
        cases j with
        | zero =>
          simp at hj
          subst hj
          rw [hc0] at hu
          cases hu
          exact r2 fun i hi => hall i (by simp [hi])
        | succ j =>
          refine s2 (fun i hi => hall i (by simp [hi])) j x u (by simpa using hj) ?_
          have hlt := (Array.getElem?_eq_some_iff.1 hu).1
          rw [Array.getElem?_extract, if_pos (by omega), Nat.add_comm]
          exact hu
      · cases hk
  induction h with
  | @sl j r n t v b l hb' hl' ht ho h =>
    intro ks hk
    simp only [tops, Option.some.injEq] at hk
    subst hk
    refine ⟨rfl, fun hall => ?_⟩
    have hj : j = k := hall j (by simp)
    subst hj
    simp only [ren, if_pos]
    exact .sl (by rw [hb]; exact hb') (by rw [hl]; exact hl') ht ho h
  | @agg cs c hs hone hx ih =>
    intro ks hk
    simp only [tops] at hk
    obtain ⟨r1, r2, r3⟩ := list hs ih ks hk
    refine ⟨by simp only [refs]; exact r1, fun hall => ?_⟩
    simp only [ren]
    exact .agg (by rw [r3]; exact hs) hone (r2 hall)
  | @tup cs c hs hx ih =>
    intro ks hk
    simp only [tops] at hk
    obtain ⟨r1, r2, r3⟩ := list hs ih ks hk
    refine ⟨by simp only [refs]; exact r1, fun hall => ?_⟩
    simp only [ren]
    exact .tup (by rw [r3]; exact hs) (r2 hall)
  | undef v => intro ks hk; obtain ⟨h1, h2⟩ := flat (.undef v) ks hk; exact ⟨h1, fun _ => h2⟩
  | bool b => intro ks hk; obtain ⟨h1, h2⟩ := flat (.bool b) ks hk; exact ⟨h1, fun _ => h2⟩
  | int i n => intro ks hk; obtain ⟨h1, h2⟩ := flat (.int i n) ks hk; exact ⟨h1, fun _ => h2⟩
  | str s => intro ks hk; obtain ⟨h1, h2⟩ := flat (.str s) ks hk; exact ⟨h1, fun _ => h2⟩
  | ptr => intro ks hk; cases hk
  | ssl => intro ks hk; cases hk
  | nilptr => intro ks hk; obtain ⟨h1, h2⟩ := flat .nilptr ks hk; exact ⟨h1, fun _ => h2⟩
  | vs0 sz a cap => intro ks hk; obtain ⟨h1, h2⟩ := flat (.vs0 sz a cap) ks hk; exact ⟨h1, fun _ => h2⟩
  | vs hg hone hn hlen hin hx ih => intro ks hk; obtain ⟨h1, h2⟩ := flat (.vs hg hone hn hlen hin hx) ks hk; exact ⟨h1, fun _ => h2⟩
  | vp hg hone hin hx ih => intro ks hk; obtain ⟨h1, h2⟩ := flat (.vp hg hone hin hx) ks hk; exact ⟨h1, fun _ => h2⟩
  | vf0 sz f a cap => intro ks hk; obtain ⟨h1, h2⟩ := flat (.vf0 sz f a cap) ks hk; exact ⟨h1, fun _ => h2⟩
  | vf hg hn hlen hin h => intro ks hk; obtain ⟨h1, h2⟩ := flat (.vf hg hn hlen hin h) ks hk; exact ⟨h1, fun _ => h2⟩
  | vi h _ => intro ks hk; obtain ⟨h1, h2⟩ := flat (.vi h) ks hk; exact ⟨h1, fun _ => h2⟩
  | vm0 m q a cap => intro ks hk; obtain ⟨h1, h2⟩ := flat (.vm0 m q a cap) ks hk; exact ⟨h1, fun _ => h2⟩
  | vm hg hn hin h _ => intro ks hk; obtain ⟨h1, h2⟩ := flat (.vm hg hn hin h) ks hk; exact ⟨h1, fun _ => h2⟩
  | esl a => intro ks hk; obtain ⟨h1, h2⟩ := flat (.esl a) ks hk; exact ⟨h1, fun _ => h2⟩
  | nilsl => intro ks hk; obtain ⟨h1, h2⟩ := flat .nilsl ks hk; exact ⟨h1, fun _ => h2⟩
  | fn hs hx ih => intro ks hk; obtain ⟨h1, h2⟩ := flat (.fn hs hx) ks hk; exact ⟨h1, fun _ => h2⟩

end
end Go.Proofs.Ytjdciikfbinchaa.Abs
