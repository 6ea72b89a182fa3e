/- The abstract machine: a region, in whatever order it is done. -/
import Derived.Test.YtjdciikfbinchaaAbs19
namespace Go.Proofs.Ytjdciikfbinchaa.Abs
open Go

/-! ### which operations come first -/
theorem preds_stable : ∀ (l : List Oper) (pre : List (List Nat)), ∃ r, preds l pre = pre ++ r ∧ r.length = l.length
  | [], pre => ⟨[], by simp [preds], rfl⟩
  | o :: l, pre => by
    obtain ⟨r, h, hl⟩ := preds_stable l (pre ++ [predsOf pre o])
    exact ⟨predsOf pre o :: r, by simp only [preds, h]; simp, by simp [hl]⟩

theorem getD_append_lt {l r : List (List Nat)} {i : Nat} (h : i < l.length) : (l ++ r).getD i [] = l.getD i [] := by
  simp [List.getD, List.getElem?_append_left h]

theorem preds_get : ∀ (l : List Oper) (pre : List (List Nat)) (j : Nat) (o : Oper), l[j]? = some o → backward l pre.length = true →
    ∃ q : List (List Nat), (preds l pre).getD (pre.length + j) [] = (o.after.toList.filter (Region.binds .any ·)).flatMap (fun e => e.on :: q.getD e.on []) ∧
      (∀ e ∈ o.after.toList, Region.binds .any e = true → e.on < pre.length + j) ∧ ∀ i, i < pre.length + j → (preds l pre).getD i [] = q.getD i []
  | [], pre, j, o, h, _ => by cases h
  | x :: l, pre, 0, o, h, hb => by
    simp at h
    subst h
    obtain ⟨r, hr, _⟩ := preds_stable l (pre ++ [predsOf pre x])
    refine ⟨pre, ?_, ?_, ?_⟩
    · simp only [preds, hr]
      simp [List.getD, predsOf]
    · intro e he hbe
      simp only [backward, Bool.and_eq_true, List.all_eq_true] at hb
      have := hb.1 e he
      simpa [hbe] using this
    · intro i hi
      simp only [preds, hr]
      rw [List.append_assoc, getD_append_lt (by omega)]
  | x :: l, pre, j + 1, o, h, hb => by
    simp only [backward, Bool.and_eq_true] at hb
    obtain ⟨q, h1, h2, h3⟩ := preds_get l (pre ++ [predsOf pre x]) j o (by simpa using h) (by simpa using hb.2)
    have hlen : (pre ++ [predsOf pre x]).length + j = pre.length + (j + 1) := by simp; omega
    rw [hlen] at h1 h2 h3
    exact ⟨q, h1, h2, h3⟩

section
variable {ops : Array Oper}

/-- what comes before the j-th operation, in every order -/
def pre (ops : Array Oper) (j : Nat) : List Nat := (preds ops.toList []).getD j []

theorem pre_eq {j : Nat} {o : Oper} (hb : backward ops.toList 0 = true) (ho : ops[j]? = some o) :
    (∀ e ∈ o.after.toList, Region.binds .any e = true → e.on < j) ∧ ∀ i ∈ pre ops j, ∃ e ∈ o.after.toList, Region.binds .any e = true ∧ (i = e.on ∨ i ∈ pre ops e.on) := by
  obtain ⟨q, h1, h2, h3⟩ := preds_get ops.toList [] j o (by simpa using ho) hb
  simp only [List.length_nil, Nat.zero_add] at h1 h2 h3
  refine ⟨h2, fun i hi => ?_⟩
  unfold pre at hi
  rw [h1] at hi
  obtain ⟨e, he, hie⟩ := List.mem_flatMap.1 hi
  obtain ⟨he1, he2⟩ := List.mem_filter.1 he
  refine ⟨e, he1, he2, ?_⟩
  rcases List.mem_cons.1 hie with h | h
  · exact .inl h
  · refine .inr ?_
    unfold pre
    rw [h3 e.on (h2 e he1 he2)]
    exact h

theorem free_mem {i j : Nat} (hij : i < j) (hj : j < ops.size) (hn : i ∉ pre ops j) : (i, j) ∈ free ops := by
  unfold free
  simp only [List.mem_flatMap, List.mem_range, List.mem_map, List.mem_filter]
  exact ⟨j, hj, i, ⟨hij, by simpa [pre] using hn⟩, rfl⟩

/-- what is still to do -/
def todo (ops : Array Oper) (listed : Array Bool) : List Nat := (List.range ops.size).filter fun i => !listed.getD i true
def both (ops : Array Oper) (feet : List Foot) (i : Nat) : Oper × Foot := (ops.getD i default, feet.getD i {})

theorem both_indep {feet : List Foot} (ho : orderOk ops = true) (hf : feetOk ops feet = true) {i j : Nat} (hij : i < j) (hj : j < ops.size) (hl : feet.length = ops.size) (hn : i ∉ pre ops j) :
    Indep ops (both ops feet i).1 (both ops feet j).1 (both ops feet i).2 (both ops feet j).2 := by
  have hm := free_mem hij hj hn
  simp only [orderOk, Bool.and_eq_true, List.all_eq_true] at ho
  simp only [feetOk, List.all_eq_true] at hf
  have h1 := ho.2 _ hm
  have h2 := hf _ hm
  have ei : ops[i]? = some (ops.getD i default) := by rw [Array.getD_eq_getD_getElem?, Array.getElem?_eq_getElem (by omega)]; rfl
  have ej : ops[j]? = some (ops.getD j default) := by rw [Array.getD_eq_getD_getElem?, Array.getElem?_eq_getElem hj]; rfl
  have fi : feet[i]? = some (feet.getD i {}) := by rw [List.getD_eq_getElem?_getD, List.getElem?_eq_getElem (by omega)]; rfl
  have fj : feet[j]? = some (feet.getD j {}) := by rw [List.getD_eq_getElem?_getD, List.getElem?_eq_getElem (by omega)]; rfl
  simp only [ei, ej] at h1
  simp only [fi, fj] at h2
  unfold both
  simp only
  generalize ops.getD i default = x at h1
  generalize ops.getD j default = y at h1
  generalize feet.getD i {} = fx at h2
  generalize feet.getD j {} = fy at h2
  simp only [slotsOk, Bool.and_eq_true] at h1
  obtain ⟨s1, s2⟩ := h1
  simp only [Foot.clash, Bool.not_eq_true', Bool.or_eq_false_iff, Bool.and_eq_false_iff] at h2
  obtain ⟨⟨⟨c1, c2⟩, c3⟩, c4⟩ := h2
  refine ⟨fun d hd => ?_, fun d hd => ?_, fun d hd => ?_, fun ⟨a, b⟩ => ?_, c2, c3, c4⟩
  · rw [hd] at s1
    simp only [Bool.and_eq_true] at s1
    simpa using s1.2
  · rw [hd] at s1
    simp only [Bool.and_eq_true] at s1
    simpa using s1.1
  · rw [hd] at s2
    simpa using s2
  · rcases c1 with c | c
    · rw [a] at c; cases c
    · rw [b] at c; cases c

variable {P : Program} {rec : Rec} {cfg : Cfg} {C : Ctx} {Q : Exit → Act → World → Prop}

theorem mem_ready {listed : Array Bool} {i : Nat} : i ∈ Region.ready .any ops listed ↔ i < ops.size ∧ listed.getD i true = false ∧ ∃ o, ops[i]? = some o ∧ ∀ e ∈ o.after.toList, Region.binds .any e = true → listed.getD e.on false = true := by
  unfold Region.ready
  simp only [List.mem_filter, List.mem_range, Bool.and_eq_true, Bool.not_eq_true']
  constructor
  · rintro ⟨h1, h2, h3⟩
    refine ⟨h1, h2, ?_⟩
    cases ho : ops[i]? with
    | none => rw [ho] at h3; cases h3
    | some o =>
      rw [ho] at h3
      simp only [Option.map_some, Option.getD_some, ← Array.all_toList, List.all_eq_true] at h3
      exact ⟨o, rfl, fun e he hb => by simpa [hb] using h3 e he⟩
  · rintro ⟨h1, h2, o, ho, h3⟩
    refine ⟨h1, h2, ?_⟩
    rw [ho]
    simp only [Option.map_some, Option.getD_some, ← Array.all_toList, List.all_eq_true]
    intro e he
    cases hb : Region.binds .any e with
    | false => rfl
    | true => simpa [hb] using h3 e he hb

theorem listed_set {listed : Array Bool} {i j : Nat} {d : Bool} (hi : i < listed.size) : (listed.setIfInBounds i true).getD j d = if i = j then true else listed.getD j d := by
  rw [Array.getD_eq_getD_getElem?, Array.getD_eq_getD_getElem?]
  by_cases h : i = j
  · subst h; rw [Array.getElem?_setIfInBounds_self_of_lt hi, if_pos rfl]; rfl
  · rw [Array.getElem?_setIfInBounds_ne h, if_neg h]

theorem listed_lt {listed : Array Bool} {j : Nat} (h : listed.getD j false = true) : j < listed.size := by
  rw [Array.getD_eq_getD_getElem?] at h
  cases hj : listed[j]? with
  | none => rw [hj] at h; cases h
  | some b => exact (Array.getElem?_eq_some_iff.1 hj).1
theorem listed_def {listed : Array Bool} {j : Nat} (h : j < listed.size) (d d' : Bool) : listed.getD j d = listed.getD j d' := by
  rw [Array.getD_eq_getD_getElem?, Array.getD_eq_getD_getElem?, Array.getElem?_eq_getElem h]; rfl

/-- a member of a list of numbers in their order parts it -/
theorem filter_split {p : Nat → Bool} {i : Nat} : ∀ (n : Nat), i < n → p i = true → ∃ A B, (List.range n).filter p = A ++ i :: B ∧ (∀ a ∈ A, a < i ∧ p a = true) ∧ (List.range n).filter (fun j => p j && !decide (i = j)) = A ++ B
  | 0, h, _ => by omega
  | n + 1, h, hp => by
    by_cases hin : i = n
    · subst hin
      refine ⟨(List.range i).filter p, [], by rw [List.range_succ, List.filter_append]; simp [hp], fun a ha => ?_, ?_⟩
      · obtain ⟨h1, h2⟩ := List.mem_filter.1 ha
        exact ⟨List.mem_range.1 h1, h2⟩
      · rw [List.range_succ, List.filter_append, List.append_nil]
        have : (List.range i).filter (fun j => p j && !decide (i = j)) = (List.range i).filter p := by
          refine List.filter_congr fun j hj => ?_
          have := List.mem_range.1 hj
          have : i ≠ j := by omega
          simp [this]
        rw [this]
        simp
    · obtain ⟨A, B, h1, h2, h3⟩ := filter_split n (by omega) hp
      refine ⟨A, B ++ [n].filter p, by rw [List.range_succ, List.filter_append, h1]; simp, h2, ?_⟩
      rw [List.range_succ, List.filter_append, h3]
      have : [n].filter (fun j => p j && !decide (i = j)) = [n].filter p := by
        refine List.filter_congr fun j hj => ?_
        simp at hj
        subst hj
        simp [hin]
      rw [this, List.append_assoc]

theorem any_sound (hrec : RecSound P rec) (hk : Keeps rec) {feet : List Foot} (ho : orderOk ops = true) (hf : feetOk ops feet = true) (hl : feet.length = ops.size) (hd : ∀ o ∈ ops.toList, ∀ d : Nat, o.dst = some d → d < C.K) :
    ∀ (fuel : Nat) (listed : Array Bool) (st send : St) (a : Act) (w : World), listed.size = ops.size → (todo ops listed).length ≤ fuel → (∀ j, listed.getD j false = true → ∀ i ∈ pre ops j, listed.getD i false = true) → Good C st a w →
      Run (tiOf P) rec cfg ops st ((todo ops listed).map (both ops feet)) send → (∀ s' a' w', Eqv send s' → Good C s' a' w' → Q .normal a' w') → wpAny P .any ops Q fuel listed a w := by
  have hb : backward ops.toList 0 = true := by simp only [orderOk, Bool.and_eq_true] at ho; exact ho.1
  have first : ∀ listed : Array Bool, listed.size = ops.size → Region.ready .any ops listed = [] → todo ops listed = [] := by
    intro listed hs hr
    cases ht : todo ops listed with
    | nil => rfl
    | cons i B =>
      exfalso
      have hi : i ∈ todo ops listed := by rw [ht]; simp
      obtain ⟨hi1, hi2⟩ := List.mem_filter.1 hi
      have hin := List.mem_range.1 hi1
      have hpi : (fun j => !listed.getD j true) i = true := hi2
      obtain ⟨A, B', h1, h2, _⟩ := filter_split (p := fun j => !listed.getD j true) ops.size hin hpi
      have hA : A = [] := by
        cases A with
        | nil => rfl
        | cons x A' =>
          have hx := h2 x (by simp)
          have : todo ops listed = x :: (A' ++ i :: B') := h1
          rw [ht] at this
          have hxi := (List.cons.inj this).1
          omega
      have hio : ops[i]? = some ops[i] := Array.getElem?_eq_getElem hin
      have : i ∈ Region.ready .any ops listed := by
        refine mem_ready.2 ⟨hin, by simpa using hi2, _, hio, fun e he hbe => ?_⟩
        have hlt := (pre_eq hb hio).1 e he hbe
        cases hle : listed.getD e.on false with
        | true => rfl
        | false =>
          have hmem : e.on ∈ todo ops listed := List.mem_filter.2 ⟨List.mem_range.2 (by omega), by rw [listed_def (by omega) true false, hle]; rfl⟩
          have ht' : todo ops listed = A ++ i :: B' := h1
          rw [ht', hA] at hmem
          have hsorted : List.Pairwise (· < ·) (todo ops listed) := List.Pairwise.filter _ List.pairwise_lt_range
          rw [ht', hA] at hsorted
          simp only [List.nil_append, List.pairwise_cons, List.mem_cons] at hsorted hmem
          rcases hmem with h | h
          · omega
          · have := hsorted.1 _ h; omega
      rw [hr] at this
      cases this
  intro fuel
  induction fuel with
  | zero =>
    intro listed st send a w hs ht _ hG hrun hQ
    have ht0 : todo ops listed = [] := List.eq_nil_of_length_eq_zero (by omega)
    rw [ht0] at hrun
    cases hrun
    refine ⟨?_, hQ _ a w (Eqv.refl _) hG⟩
    refine List.eq_nil_iff_forall_not_mem.2 fun i hi => ?_
    obtain ⟨h1, h2, _⟩ := mem_ready.1 hi
    have : i ∈ todo ops listed := List.mem_filter.2 ⟨List.mem_range.2 h1, by rw [h2]; rfl⟩
    rw [ht0] at this
    cases this
  | succ fuel ih =>
    intro listed st send a w hs ht hdc hG hrun hQ
    refine ⟨fun hr => ?_, fun i hi => ?_⟩
    · have ht0 := first listed hs hr
      rw [ht0] at hrun
      cases hrun
      exact hQ _ a w (Eqv.refl _) hG
    · obtain ⟨hin, hil, o, hio, hed⟩ := mem_ready.1 hi
      have hpi : (fun j => !listed.getD j true) i = true := by simp [hil]
      obtain ⟨A, B, h1, h2, h3⟩ := filter_split (p := fun j => !listed.getD j true) ops.size hin hpi
      have ht' : todo ops listed = A ++ i :: B := h1
      have hpre : ∀ j ∈ pre ops i, listed.getD j false = true := fun j hj => by
        obtain ⟨e, he, hbe, h⟩ := (pre_eq hb hio).2 j hj
        have hle := hed e he hbe
        rcases h with rfl | h
        · exact hle
        · exact hdc _ hle j h
      rw [ht', List.map_append, List.map_cons] at hrun
      obtain ⟨e, s'', hdo, hrun', hev⟩ := Run.front (o := (both ops feet i).1) (f := (both ops feet i).2) hk (A.map (both ops feet)) hrun fun x hx => by
        obtain ⟨j, hj, rfl⟩ := List.mem_map.1 hx
        obtain ⟨hji, hjp⟩ := h2 j hj
        refine both_indep ho hf hji hin hl fun hjm => ?_
        have := hpre j hjm
        have hjl : listed.getD j true = false := by simpa using hjp
        rw [listed_def (by omega) true false, this] at hjl
        cases hjl
      have hboth : (both ops feet i).1 = o := by unfold both; simp [hio]
      rw [hboth] at hdo hrun'
      have htodo : todo ops (listed.setIfInBounds i true) = A ++ B := by
        rw [← h3]
        refine List.filter_congr fun j hj => ?_
        rw [listed_set (by omega)]
        by_cases hij : i = j
        · simp [hij]
        · simp [hij]
      refine wpOp_mono (fun a' w' hG' => ih (listed.setIfInBounds i true) _ s'' a' w' (by simpa using hs) ?_ ?_ hG' ?_ fun s' a' w' he hg => hQ s' a' w' (hev.trans he) hg) (step_sound hrec hio (fun d hod => hd o (Array.mem_toList_iff.2 (Array.mem_of_getElem? hio)) d hod) (does_stepA hdo) hG)
      · rw [htodo]; rw [ht'] at ht; simp at ht ⊢; omega
      · intro j hj k hkm
        rw [listed_set (by omega)] at hj ⊢
        by_cases hik : i = k
        · rw [if_pos hik]
        · rw [if_neg hik]
          by_cases hij : i = j
          · subst hij; exact hpre k hkm
          · rw [if_neg hij] at hj; exact hdc j hj k hkm
      · rw [htodo, List.map_append]; exact hrun'

/-- A REGION. -/
theorem region_sound {id : Nat} {d : Bool} {st st' : St} {a : Act} {w : World} (hm : P.follows .mixedOrders = true) (hrec : RecSound P rec) (hk : Keeps rec) (hd : dstsOk C.K ops.toList = true) (h : region (tiOf P) rec cfg ops d st = some st') (hG : Good C st a w)
    (hQ : ∀ a' w', Good C st' a' w' → Q .normal a' w') : (Code.region id ops d).wp P Q a w := by
  have hd' : ∀ o ∈ ops.toList, ∀ d : Nat, o.dst = some d → d < C.K := fun o ho d hod => by
    simp only [dstsOk, List.all_eq_true] at hd
    have := hd o ho
    rw [hod] at this
    simpa using this
  unfold region at h
  cases d with
  | false =>
    refine wp_region (ops_sound hrec _ ops.toList st st' a w ?_ hd' h hG hQ)
    apply List.ext_getElem?
    intro i
    by_cases hi : i < ops.size
    · simp [hi]
    · simp [hi]
  | true =>
    cases ho : orderOk ops with
    | false => rw [ho] at h; cases h
    | true =>
      rw [ho] at h
      simp only [cond_true, Option.bind_eq_some_iff] at h
      obtain ⟨⟨s, fs⟩, h1, h2⟩ := h
      cases hf : feetOk ops fs with
      | false => simp [hf] at h2
      | true =>
        simp only [hf, cond_true, Option.some.injEq] at h2
        subst h2
        obtain ⟨hl, hrun⟩ := runD_run _ _ _ _ h1
        have hl' : fs.length = ops.size := by simpa using hl
        have hlst : ∀ j, (Array.replicate ops.size false).getD j false = false := fun j => by
          rw [Array.getD_eq_getD_getElem?, Array.getElem?_replicate]; split <;> rfl
        have htodo : todo ops (Array.replicate ops.size false) = List.range ops.size := by
          refine List.filter_eq_self.2 fun i hi => ?_
          have := List.mem_range.1 hi
          rw [listed_def (by simpa using this) true false, hlst]; rfl
        have hzip : (List.range ops.size).map (both ops fs) = ops.toList.zip fs := by
          refine List.ext_getElem (by simp [hl']) fun i h1 h2 => ?_
          have hi : i < ops.size := by simpa using h1
          have hi' : i < fs.length := by omega
          simp [both, hi, hi']
        refine wp_region_any hm (any_sound hrec hk ho hf hl' hd' ops.size _ st s a _ (by simp) (by rw [htodo]; simp) (fun j hj => by rw [hlst] at hj; cases hj) hG.drew (by rw [htodo, hzip]; exact hrun) fun s' a' w' he hg => hQ a' w' (hg.eqv he.symm))

end
end Go.Proofs.Ytjdciikfbinchaa.Abs
