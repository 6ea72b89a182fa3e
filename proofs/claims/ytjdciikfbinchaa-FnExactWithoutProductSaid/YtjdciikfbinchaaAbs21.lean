/- The abstract machine: code is sound; leaving a call. -/
import Derived.Test.YtjdciikfbinchaaAbs20
import Derived.LoopN
namespace Go.Proofs.Ytjdciikfbinchaa.Abs
open Go

theorem pickE_get (env : List (Nat × AV)) (t : Nat) : ∀ ks, get (pickE env ks) t = get env t ∨ get (pickE env ks) t = .undef
  | [] => .inr rfl
  | k :: ks => by
    unfold pickE
    cases h : env.lookup k with
    | none => exact pickE_get env t ks
    | some v =>
      by_cases ht : t = k
      · subst ht
        refine .inl ?_
        simp [get, h]
      · have : (t == k) = false := by simpa using ht
        simp only [get, List.lookup_cons, this]
        exact pickE_get env t ks

theorem pickL_get (lo : List (Nat × List AV)) (d : Nat) (v : List AV) : ∀ ks, (pickL lo ks).lookup d = some v → lo.lookup d = some v
  | [], h => by cases h
  | k :: ks, h => by
    unfold pickL at h
    cases hk : lo.lookup k with
    | none => rw [hk] at h; exact pickL_get lo d v ks h
    | some u =>
      rw [hk] at h
      simp only [List.lookup_cons] at h
      by_cases hd : d = k
      · subst hd
        simp at h
        rw [hk, h]
      · have : (d == k) = false := by simpa using hd
        simp only [this] at h
        exact pickL_get lo d v ks h

def Ex.toExit : Ex → Exit
  | .normal => .normal
  | .exit id => .exit id
  | .ret => .ret

section
variable {P : Program} {rec : Rec} {cfg : Cfg} {C : Ctx}

theorem Good.norm {st : St} {a : Act} {w : World} (c : Code) (h : Good C st a w) : Good C (norm cfg c st) a w := by
  unfold Abs.norm
  split
  · split
    · rename_i ks ls _
      obtain ⟨M, ρ, β, hM, hE, ⟨⟨lo, hR, hlo, hlf⟩, hfr, hkeys, henv, hsz, hdef⟩, hA⟩ := h
      refine ⟨M, ρ, β, hM, hE, ⟨⟨lo, hR, fun d v hl => hlo d v (pickL_get _ _ _ _ hl), hlf⟩, hfr, fun d v hl => hkeys d v (pickL_get _ _ _ _ hl), fun t => ?_, hsz, hdef⟩, hA⟩
      rcases pickE_get st.env t ks with he | he
      · simp only [he]; exact henv t
      · simp only [he]; exact .inr (.undef _)
    · exact h
  · exact h

/-- CODE. -/
theorem code_sound (hm : P.follows .mixedOrders = true) (hrec : RecSound P rec) (hk : Keeps rec) (n : Nat) (c : Code) : ∀ (st : St) (x : Ex) (st' : St) (a : Act) (w : World) (Q : Exit → Act → World → Prop), codeOk C.K c = true → evalC (tiOf P) n rec cfg c st = some (x, st') → Good C st a w →
    (∀ a' w', Good C st' a' w' → Q x.toExit a' w') → c.wp P Q a w := by
  induction c with
  | skip => intro st x st' a w Q _ h hG hQ; cases h; exact wp_skip (hQ a w hG)
  | exit id => intro st x st' a w Q _ h hG hQ; cases h; exact wp_exit (hQ a w hG)
  | ret => intro st x st' a w Q _ h hG hQ; cases h; exact wp_ret (hQ a w hG)
  | region id ops d =>
    intro st x st' a w Q hc h hG hQ
    simp only [evalC, Option.map_eq_some_iff] at h
    obtain ⟨s, hs, h⟩ := h
    cases h
    exact region_sound hm hrec hk hc hs hG hQ
  | seq c1 c2 ih1 ih2 =>
    intro st x st' a w Q hc h hG hQ
    simp only [codeOk, Bool.and_eq_true] at hc
    simp only [evalC] at h
    refine wp_seq ?_
    cases h1 : evalC (tiOf P) n rec cfg c1 st with
    | none => rw [h1] at h; cases h
    | some p =>
      obtain ⟨y, s⟩ := p
      rw [h1] at h
      refine ih1 st y s a w _ hc.1 h1 hG fun a' w' hG' => ?_
      cases y with
      | normal => exact ih2 s x st' a' w' Q hc.2 h hG' hQ
      | exit id => cases h; exact hQ a' w' hG'
      | ret => cases h; exact hQ a' w' hG'
  | cond y c1 c2 ih1 ih2 =>
    intro st x st' a w Q hc h hG hQ
    simp only [codeOk, Bool.and_eq_true] at hc
    simp only [evalC] at h
    split at h
    · rename_i t ht
      have hv : a.eval y = .bool t := by
        obtain ⟨M, ρ, β, hM, hE, ⟨_, hfr, hkeys, henv, hsz, hdef⟩, hA⟩ := hG
        exact (opd_rel (a := a) ht fun t _ => henv t).bool_inv
      refine wp_cond hv ?_
      cases t with
      | true => exact ih1 st x st' a w Q hc.1 (by simpa using h) hG hQ
      | false => exact ih2 st x st' a w Q hc.2 (by simpa using h) hG hQ
    · cases h
  | block id c ih =>
    intro st x st' a w Q hc h hG hQ
    simp only [evalC] at h
    refine wp_block ?_
    cases h1 : evalC (tiOf P) n rec cfg c st with
    | none => rw [h1] at h; cases h
    | some p =>
      obtain ⟨y, s⟩ := p
      rw [h1] at h
      refine ih st y s a w _ hc h1 hG fun a' w' hG' => ?_
      cases y with
      | normal => cases h; exact hQ a' w' hG'
      | exit i =>
        simp only at h
        simp only [Ex.toExit, Exit.inBlock]
        split at h
        · rename_i hi; cases h; rw [if_pos hi]; exact hQ a' w' hG'
        · rename_i hi; cases h; rw [if_neg hi]; exact hQ a' w' hG'
      | ret => cases h; exact hQ a' w' hG'
  | loop c ih =>
    intro st x st' a w Q hc h hG hQ
    simp only [evalC] at h
    refine wp_loop_rounds n ?_
    have : ∀ m st a w, loopA (norm cfg c) (evalC (tiOf P) n rec cfg c) m st = some (x, st') → Good C st a w → Code.rounds P c Q m a w := by
      intro m
      induction m with
      | zero => intro st a w h; cases h
      | succ m ihm =>
        intro st a w h hG
        rw [loopA] at h
        rw [rounds_succ]
        cases h1 : evalC (tiOf P) n rec cfg c (norm cfg c st) with
        | none => rw [h1] at h; cases h
        | some p =>
          obtain ⟨y, s⟩ := p
          rw [h1] at h
          refine ih _ y s a w _ hc h1 (hG.norm c) fun a' w' hG' => ?_
          cases y with
          | normal => exact ihm s a' w' h hG'
          | exit i => cases h; exact hQ a' w' hG'
          | ret => cases h; exact hQ a' w' hG'
    exact this n st a w h hG
  | _ => intro st x st' a w Q _ h; cases h

end

/-! ### another heap under the same values -/
theorem refsL_mem : ∀ {cs : List AV} {j : Nat} {x : AV}, cs[j]? = some x → ∀ k ∈ refs x, k ∈ refsL cs
  | [], j, x, h => by cases h
  | y :: cs, 0, x, h => by simp at h; subst h; intro k hk; simp [refsL, hk]
  | y :: cs, j + 1, x, h => fun k hk => by have := refsL_mem (cs := cs) (j := j) (by simpa using h) k hk; simp [refsL, this]
theorem refsR_mem : ∀ {rows : List (List AV)} {i : Nat} {row : List AV}, rows[i]? = some row → ∀ k ∈ refsL row, k ∈ refsR rows
  | [], j, x, h => by cases h
  | y :: cs, 0, x, h => by simp at h; subst h; intro k hk; simp [refsR, hk]
  | y :: cs, j + 1, x, h => fun k hk => by have := refsR_mem (rows := cs) (i := j) (by simpa using h) k hk; simp [refsR, this]

theorem VRel.loc {M : Mem} {ρ ρ' : Rho} {hp hp' : List Blk} {x : AV} {v : Value} (h : VRel M ρ hp x v) (hr : ∀ k ∈ refs x, hp'[k]? = hp[k]? ∧ ρ' k = ρ k) : VRel M ρ' hp' x v := by
  induction h with
  | undef v => exact .undef v
  | bool b => exact .bool b
  | int k n => exact .int k n
  | str s => exact .str s
  | @ptr k r c t v b l hb hl ht ho h =>
    obtain ⟨h1, h2⟩ := hr k (by simp [refs])
    exact .ptr (by rw [h1]; exact hb) (by rw [h2]; exact hl) ht ho h
  | nilptr => exact .nilptr
  | @sl k r n t v b l hb hl ht ho h =>
    obtain ⟨h1, h2⟩ := hr k (by simp [refs])
    exact .sl (by rw [h1]; exact hb) (by rw [h2]; exact hl) ht ho h
  | @ssl k r c n t v b l hb hl ht ho h =>
    obtain ⟨h1, h2⟩ := hr k (by simp [refs])
    exact .ssl (by rw [h1]; exact hb) (by rw [h2]; exact hl) ht ho h
  | vs0 sz a cap => exact .vs0 sz a cap
  | vs hg hone hn hlen hin _ ih => exact .vs hg hone hn hlen hin fun i row j x u h1 h2 h3 => ih i row j x u h1 h2 h3 fun k hk => hr k (by simp only [refs]; exact refsR_mem h1 k (refsL_mem h2 k hk))
  | vp hg hone hin _ ih => exact .vp hg hone hin fun j x u h1 h2 => ih j x u h1 h2 fun k hk => hr k (by simp only [refs]; exact refsL_mem h1 k hk)
  | vf0 sz f a cap => exact .vf0 sz f a cap
  | vf hg hn hlen hin h => exact .vf hg hn hlen hin h
  | vi _ ih => exact .vi (ih fun k hk => by simp [refs] at hk)
  | vm0 m q a cap => exact .vm0 m q a cap
  | vm hg hn hin _ ih => exact .vm hg hn hin fun i u h1 h2 => ih i u h1 h2 fun k hk => by simp [refs] at hk
  | esl a => exact .esl a
  | nilsl => exact .nilsl
  | fn hs _ ih => exact .fn hs fun j x u h1 h2 => ih j x u h1 h2 fun k hk => hr k (by simp only [refs]; exact refsL_mem h1 k hk)
  | agg hs hone _ ih => exact .agg hs hone fun j x u h1 h2 => ih j x u h1 h2 fun k hk => hr k (by simp only [refs]; exact refsL_mem h1 k hk)
  | tup hs _ ih => exact .tup hs fun j x u h1 h2 => ih j x u h1 h2 fun k hk => hr k (by simp only [refs]; exact refsL_mem h1 k hk)

theorem refsL_at : ∀ {cs : List AV} {k : Nat}, k ∈ refsL cs → ∃ (j : Nat) (x : AV), cs[j]? = some x ∧ k ∈ refs x
  | [], k, h => by simp [refsL] at h
  | x :: cs, k, h => by
    simp only [refsL, List.mem_append] at h
    rcases h with h | h
    · exact ⟨0, x, rfl, h⟩
    · obtain ⟨j, y, hj, hy⟩ := refsL_at h
      exact ⟨j + 1, y, by simpa using hj, hy⟩
theorem refsR_at : ∀ {rows : List (List AV)} {k : Nat}, k ∈ refsR rows → ∃ (i : Nat) (row : List AV), rows[i]? = some row ∧ k ∈ refsL row
  | [], k, h => by simp [refsR] at h
  | x :: cs, k, h => by
    simp only [refsR, List.mem_append] at h
    rcases h with h | h
    · exact ⟨0, x, rfl, h⟩
    · obtain ⟨j, y, hj, hy⟩ := refsR_at h
      exact ⟨j + 1, y, by simpa using hj, hy⟩

/-- what a told value names is there -/
theorem VRel.there {M : Mem} {ρ : Rho} {hp : List Blk} {x : AV} {v : Value} (h : VRel M ρ hp x v) : ∀ k ∈ refs x, ∃ b l, hp[k]? = some b ∧ ρ k = some l := by
  induction h with
  | @ptr k r c t v b l hb hl ht ho h => intro i hi; simp [refs] at hi; subst hi; exact ⟨b, l, hb, hl⟩
  | @sl k r n t v b l hb hl ht ho h => intro i hi; simp [refs] at hi; subst hi; exact ⟨b, l, hb, hl⟩
  | @ssl k r c n t v b l hb hl ht ho h => intro i hi; simp [refs] at hi; subst hi; exact ⟨b, l, hb, hl⟩
  | @vs sz rows g off cap c e f hg hone hn hlen hin _ ih =>
    intro k hk
    simp only [refs] at hk
    obtain ⟨i, row, h1, h2⟩ := refsR_at hk
    obtain ⟨j, x, h3, h4⟩ := refsL_at h2
    have hi := (List.getElem?_eq_some_iff.1 h1).1
    have hj := (List.getElem?_eq_some_iff.1 h3).1
    rw [hlen row (List.mem_of_getElem? h1)] at hj
    have hlt : off + i * sz + j < c.size := by
      have := Nat.mul_le_mul_right sz (show i + 1 ≤ rows.length by omega)
      rw [Nat.succ_mul] at this
      omega
    exact ih i row j x c[off + i * sz + j] h1 h3 (by simp [hlt]) k h4
  | @vp row q g off c e f hg hone hin _ ih =>
    intro k hk
    simp only [refs] at hk
    obtain ⟨j, x, h3, h4⟩ := refsL_at hk
    have hj := (List.getElem?_eq_some_iff.1 h3).1
    have hlt : off + j < c.size := by omega
    exact ih j x c[off + j] h3 (by simp [hlt]) k h4
  | @fn f caps c hs _ ih =>
    intro k hk
    simp only [refs] at hk
    obtain ⟨j, x, h3, h4⟩ := refsL_at hk
    have hj := (List.getElem?_eq_some_iff.1 h3).1
    have hlt : j < c.size := by omega
    exact ih j x c[j] h3 (by simp [hlt]) k h4
  | @agg cs c hs hone _ ih =>
    intro k hk
    simp only [refs] at hk
    obtain ⟨j, x, h3, h4⟩ := refsL_at hk
    have hj := (List.getElem?_eq_some_iff.1 h3).1
    have hlt : j < c.size := by omega
    exact ih j x c[j] h3 (by simp [hlt]) k h4
  | @tup cs c hs _ ih =>
    intro k hk
    simp only [refs] at hk
    obtain ⟨j, x, h3, h4⟩ := refsL_at hk
    have hj := (List.getElem?_eq_some_iff.1 h3).1
    have hlt : j < c.size := by omega
    exact ih j x c[j] h3 (by simp [hlt]) k h4
  | _ => intro k hk; simp [refs, refsR] at hk

section
variable {M : Mem} {ρ : Rho} {β : Nat → Option Nat} {hp : List Blk} {lo : List (Nat × List AV)} {H : Array Obj}

/-- what the heap's blocks and the variables name is there -/
theorem Real.rows_there (h : Real M ρ β hp lo H) {k : Nat} {b : Blk} (hb : hp[k]? = some b) {row : List AV} (hrow : row ∈ b.rows) {i : Nat} (hi : i ∈ refsL row) : i < hp.length := by
  obtain ⟨l, c, hl, hat⟩ := h.blk k b hb
  obtain ⟨r, hr⟩ := List.mem_iff_getElem?.1 hrow
  obtain ⟨j, x, h3, h4⟩ := refsL_at hi
  have hrl := (List.getElem?_eq_some_iff.1 hr).1
  have hj := (List.getElem?_eq_some_iff.1 h3).1
  rw [hat.len row hrow] at hj
  have hlt : r * b.sz + j < c.size := by
    have := Nat.mul_le_mul_right b.sz (show r + 1 ≤ b.rows.length by omega)
    rw [Nat.succ_mul] at this
    have := hat.room
    have := hat.size
    omega
  obtain ⟨b', l', hb', _⟩ := (hat.rows r row j x c[r * b.sz + j] hr h3 (by simp [hlt])).there i h4
  exact (List.getElem?_eq_some_iff.1 hb').1
theorem Real.var_there (h : Real M ρ β hp lo H) {d g : Nat} {cs : List AV} (hd : β d = some g) (hl : lo.lookup d = some cs) {i : Nat} (hi : i ∈ refsL cs) : i < hp.length := by
  obtain ⟨c, e, hv⟩ := h.var d g cs hd hl
  obtain ⟨j, x, h3, h4⟩ := refsL_at hi
  have hj := (List.getElem?_eq_some_iff.1 h3).1
  have hlt : j < c.size := by have := hv.size; omega
  obtain ⟨b', l', hb', _⟩ := (hv.cells j x c[j] h3 (by simp [hlt])).there i h4
  exact (List.getElem?_eq_some_iff.1 hb').1

/-- Some of the heap's blocks, under other names. -/
theorem Real.some_of (h : Real M ρ β hp lo H) {hp2 : List Blk} {ρ2 : Rho} (hb : ∀ k b, hp2[k]? = some b → ∃ j l, hp[j]? = some b ∧ ρ j = some l ∧ ρ2 k = some l ∧ ∀ row ∈ b.rows, ∀ i ∈ refsL row, hp2[i]? = hp[i]? ∧ ρ2 i = ρ i)
    (hinj : ∀ k k' l l', ρ2 k = some l → ρ2 k' = some l' → l.blk = l'.blk → k = k') (hdom : ∀ k l, ρ2 k = some l → k < hp2.length) (hof : ∀ k l, ρ2 k = some l → ∃ j, ρ j = some l)
    (hv : ∀ d g cs, β d = some g → lo.lookup d = some cs → ∀ i ∈ refsL cs, hp2[i]? = hp[i]? ∧ ρ2 i = ρ i) : Real M ρ2 β hp2 lo H := by
  refine ⟨h.mem, fun k b hk => ?_, hinj, hdom, fun d g cs hd hl => ?_, h.vlt, h.vinj, fun d g k l hd hl => ?_⟩
  · obtain ⟨j, l, hj, hl, hl2, hrows⟩ := hb k b hk
    obtain ⟨l', c, hl', hat⟩ := h.blk j b hj
    rw [hl] at hl'
    cases hl'
    exact ⟨l, c, hl2, { hat with rows := fun i row q x u h1 h2 h3 => (hat.rows i row q x u h1 h2 h3).loc fun r hr => hrows row (List.mem_of_getElem? h1) r (refsL_mem h2 r hr) }⟩
  · obtain ⟨c, e, hva⟩ := h.var d g cs hd hl
    exact ⟨c, e, { hva with cells := fun q x u h1 h2 => (hva.cells q x u h1 h2).loc fun r hr => hv d g cs hd hl r (refsL_mem h1 r hr) }⟩
  · obtain ⟨j, hj⟩ := hof k l hl
    exact h.vdis d g j l hd hj

end
end Go.Proofs.Ytjdciikfbinchaa.Abs
