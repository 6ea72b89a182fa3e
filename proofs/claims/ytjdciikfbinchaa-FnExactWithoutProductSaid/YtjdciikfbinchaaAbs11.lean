/- The abstract machine: cutting, indexing, fields, converting. -/
import Derived.Test.YtjdciikfbinchaaAbs10
namespace Go.Proofs.Ytjdciikfbinchaa.Abs
open Go

section
variable {P : Program} {M : Mem} {ρ : Rho} {β : Nat → Option Nat} {hp : List Blk} {lo : List (Nat × List AV)} {w : World}

theorem str_type {t : Nat} (h : isStr (tiOf P) t = true) : P.underlying t = some .string := by
  unfold isStr at h
  split at h
  · rename_i ti ht
    obtain ⟨i, z, d, hi, hz, hzc, hzl, htd, hsz, hby, hd, _⟩ := tiOf_some ht
    obtain ⟨_, hs, _, _, _, _⟩ := tyOf_eq (P := P) (t := t)
    split at h
    · rename_i he
      rw [htd] at he
      exact hs he
    · cases h
  · cases h

/-- an optional bound, told and in the world -/
def BndR : Option Int → Option Value → Prop
  | none, none => True
  | some n, some v => ∃ k, v = .int k n
  | _, _ => False

theorem optI_rel {env : List (Nat × AV)} {a : Act} {x : Option Operand} {n : Option Int} (h : optI env x = some n) (hE : ∀ t, x = some (.tmp t) → ERel M ρ β hp (get env t) (a.tmps.getD t undef)) : BndR n (x.map a.eval) := by
  unfold optI at h
  split at h
  · cases h; trivial
  · rename_i x
    split at h
    · rename_i k m hv
      cases h
      exact ⟨k, (opd_rel hv fun t ht => hE t (by rw [ht])).int_inv⟩
    · cases h

theorem cut_bounds {n : Nat} {lo hi : Option Int} {l h : Nat} {vlo vhi : Option Value} (hc : cut n lo hi = some (l, h)) (h1 : BndR lo vlo) (h2 : BndR hi vhi) (isSlice : Bool) (len cap : Nat) (hl : len = n) (hcap : n ≤ cap) :
    l ≤ h ∧ h ≤ n ∧ (Instr.sliceBounds isSlice len cap vlo vhi none).run P w = .ok (l, h, cap) w := by
  subst hl
  unfold cut at hc
  split at hc
  · rename_i hb
    cases hc
    obtain ⟨b1, b2, b3⟩ := hb
    refine ⟨by omega, by omega, ?_⟩
    cases lo with
    | none =>
      cases vlo with
      | some v => exact h1.elim
      | none =>
        cases hi with
        | none =>
          cases vhi with
          | some v => exact h2.elim
          | none => simp [Instr.sliceBounds]
        | some m =>
          cases vhi with
          | none => exact h2.elim
          | some v =>
            obtain ⟨k, rfl⟩ := h2
            simp at b2 b3
            have c1 : 0 ≤ m ∧ m ≤ (cap : Int) := by omega
            simp [Instr.sliceBounds, Instr.sliceBound, asIntOf, c1]
    | some p =>
      cases vlo with
      | none => exact h1.elim
      | some v =>
        obtain ⟨k, rfl⟩ := h1
        cases hi with
        | none =>
          cases vhi with
          | some v => exact h2.elim
          | none =>
            simp at b1 b2
            have c2 : 0 ≤ p ∧ p ≤ (len : Int) := by omega
            simp [Instr.sliceBounds, Instr.sliceBound, asIntOf, c2]
        | some m =>
          cases vhi with
          | none => exact h2.elim
          | some v =>
            obtain ⟨k', rfl⟩ := h2
            simp at b1 b2 b3
            have c1 : 0 ≤ m ∧ m ≤ (cap : Int) := by omega
            have c2 : 0 ≤ p ∧ p ≤ (m.toNat : Int) := by omega
            have c3 : p ≤ max m 0 := by omega
            simp [Instr.sliceBounds, Instr.sliceBound, asIntOf, c1, c2.1, c3]
  · cases hc

theorem slice_type {t e : Nat} (hu : P.underlying t = some (.slice e)) (v : Value) (x y z : Option Value) : (Instr.sliceAt t v x y z).run P w = (Instr.slice t v x y z).run P w := by
  simp [Instr.sliceAt, run_underlying hu]

theorem run_slice_slice {t e : Nat} {i : TypeInfo} (hu : P.underlying t = some (.slice e)) (hi : P.info? e = some i) (a : Option Addr) (n cap l h m : Nat) (x y z : Option Value)
    (hb : (Instr.sliceBounds true n cap x y z).run P w = .ok (l, h, m) w) :
    (Instr.sliceAt t (.slice a n cap) x y z).run P w = .ok (.slice (if m = l then a else a.map (·.add (l * i.size))) (h - l) (m - l)) w := by
  rw [slice_type hu]
  simp [Instr.slice, run_underlying hu, hb, run_sizeOf' hi]

theorem slice_core {t : Nat} {x r : AV} {lo' hi' mx : Option Int} {v : Value} {vlo vhi vmx : Option Value} (h : sliceA (tiOf P) hp t x lo' hi' mx = some r) (hx : ERel M ρ β hp x v)
    (hvi : ∀ k sz n q, x ≠ .vi k sz n q) (h1 : BndR lo' vlo) (h2 : BndR hi' vhi) (h3 : BndR mx vmx) : ∃ u, (Instr.sliceAt t v vlo vhi vmx).run P w = .ok u w ∧ VRel M ρ hp r u := by
  unfold sliceA at h
  split at h
  · -- two bounds
    cases vmx with
    | some v => exact h3.elim
    | none =>
      split at h
      · rename_i s
        rw [hx.str_inv]
        cases hs : isStr (tiOf P) t with
        | false => rw [hs] at h; cases h
        | true =>
          rw [hs] at h
          simp only [cond_true, Option.map_eq_some_iff] at h
          obtain ⟨⟨l, m⟩, hc, rfl⟩ := h
          obtain ⟨_, _, hb⟩ := cut_bounds (P := P) (w := w) hc h1 h2 false s.size s.size rfl (Nat.le_refl _)
          exact ⟨.string (s.extract l m), by simp [Instr.sliceAt, Instr.slice, run_underlying (str_type hs), hb], .str _⟩
      · simp only [Option.bind_eq_some_iff, Option.map_eq_some_iff] at h
        obtain ⟨⟨e, te⟩, he, ⟨l, m⟩, hc, rfl⟩ := h
        obtain ⟨hu, hte⟩ := elemT_some he
        obtain ⟨ie, _, _, hie, _, _, _, _, hse, _, _, _⟩ := tiOf_some hte
        cases hx.v (fun _ _ e => by cases e)
        obtain ⟨c1, c2, hb⟩ := cut_bounds (P := P) (w := w) hc h1 h2 true 0 0 rfl (Nat.le_refl _)
        obtain rfl : m = 0 := by omega
        obtain rfl : l = 0 := by omega
        exact ⟨_, run_slice_slice hu hie none 0 0 0 0 0 _ _ _ hb, by simpa using VRel.nilsl⟩
      · simp only [Option.bind_eq_some_iff, Option.map_eq_some_iff] at h
        obtain ⟨⟨e, te⟩, he, ⟨l, m⟩, hc, rfl⟩ := h
        obtain ⟨hu, hte⟩ := elemT_some he
        obtain ⟨ie, _, _, hie, _, _, _, _, hse, _, _, _⟩ := tiOf_some hte
        cases hx.v (fun _ _ e => by cases e) with
        | esl a =>
          obtain ⟨c1, c2, hb⟩ := cut_bounds (P := P) (w := w) hc h1 h2 true 0 0 rfl (Nat.le_refl _)
          obtain rfl : m = 0 := by omega
          obtain rfl : l = 0 := by omega
          exact ⟨_, run_slice_slice hu hie a 0 0 0 0 0 _ _ _ hb, by simpa using VRel.esl a⟩
      · rename_i k r0 n tt
        simp only [Option.bind_eq_some_iff] at h
        obtain ⟨⟨e, te⟩, he, b, hb0, h⟩ := h
        obtain ⟨hu, hte⟩ := elemT_some he
        obtain ⟨ie, _, _, hie, _, _, _, _, hse, _, _, _⟩ := tiOf_some hte
        obtain ⟨hb1, hb2⟩ := fresh_some hb0
        simp only at h
        split at h
        · rename_i hcnd
          obtain ⟨hsz, hrn⟩ := hcnd
          simp only [Option.map_eq_some_iff] at h
          obtain ⟨⟨l, m⟩, hc, rfl⟩ := h
          cases hx.v (fun _ _ e => by cases e) with
          | @sl _ _ _ _ _ b' pl hb' hl hle _ hsl =>
            rw [hb1] at hb'
            cases hb'
            obtain ⟨off, cap, rfl, hnc, hoff, hcap⟩ := hsl hb2
            obtain ⟨c1, c2, hb⟩ := cut_bounds (P := P) (w := w) hc h1 h2 true n cap rfl hnc
            refine ⟨_, run_slice_slice hu hie _ n cap l m cap _ _ _ hb, ?_⟩
            refine .sl hb1 hl (by omega) rfl fun _ => ?_
            by_cases hcl : cap = l
            · rw [if_pos hcl]
              refine ⟨off, cap - l, rfl, by omega, fun hor => ?_, fun hr => ?_⟩
              · rcases hor with h0 | h0
                · omega
                · have : r0 = 0 ∧ l = 0 := by omega
                  rw [hoff (.inr this.1), h0, this.1]
              · have : r0 = 0 ∧ l = 0 := by omega
                rw [this.2, Nat.sub_zero]
                exact hcap this.1
            · rw [if_neg hcl]
              simp only [Option.map_some, Addr.add_mid]
              refine ⟨off + l * ie.size, cap - l, rfl, by omega, fun hor => ?_, fun hr => ?_⟩
              · rw [← hse, hsz]
                have : 0 < n ∨ r0 = 0 := by omega
                rw [hoff this, Nat.add_mul]
              · have : r0 = 0 ∧ l = 0 := by omega
                rw [this.2, Nat.sub_zero]
                exact hcap this.1
        · cases h
      · rename_i sz rows
        simp only [Option.bind_eq_some_iff] at h
        obtain ⟨⟨e, te⟩, he, h⟩ := h
        obtain ⟨hu, hte⟩ := elemT_some he
        obtain ⟨ie, _, _, hie, _, _, _, _, hse, _, _, _⟩ := tiOf_some hte
        simp only at h
        split at h
        · rename_i hsz
          simp only [Option.map_eq_some_iff] at h
          obtain ⟨⟨l, m⟩, hc, rfl⟩ := h
          cases hx.v (fun _ _ e => by cases e) with
          | vs0 _ a cap =>
            obtain ⟨c1, c2, hb⟩ := cut_bounds (P := P) (w := w) hc h1 h2 true 0 cap rfl (Nat.zero_le _)
            have hm : m = 0 := by simpa using c2
            have hl : l = 0 := by omega
            subst hm; subst hl
            exact ⟨_, run_slice_slice hu hie a 0 cap 0 0 cap _ _ _ hb, by simpa using VRel.vs0 sz _ _⟩
          | @vs _ _ g off cap c e' f hM hone hn hlen hin hrel =>
            obtain ⟨c1, c2, hb⟩ := cut_bounds (P := P) (w := w) hc h1 h2 true rows.length cap rfl hn
            have hll : ((rows.drop l).take (m - l)).length = m - l := by simp; omega
            have hrun := run_slice_slice (w := w) hu hie (some ⟨g, off, none⟩) rows.length cap l m cap vlo vhi none hb
            by_cases hcl : cap = l
            · rw [if_pos hcl] at hrun
              have hml : m - l = 0 := by omega
              refine ⟨_, hrun, ?_⟩
              have : (rows.drop l).take (m - l) = [] := List.eq_nil_of_length_eq_zero (by omega)
              show VRel M ρ hp (.vs sz ((rows.drop l).take (m - l))) _
              rw [this, hml]
              exact .vs0 _ _ _
            · rw [if_neg hcl] at hrun
              simp only [Option.map_some, Addr.add_mid] at hrun
              refine ⟨_, hrun, ?_⟩
              have hmul : (m - l) * sz + l * sz ≤ rows.length * sz := by
                rw [← Nat.add_mul]
                exact Nat.mul_le_mul_right _ (by omega)
              have key := VRel.vs (ρ := ρ) (hp := hp) (sz := sz) (rows := (rows.drop l).take (m - l)) (g := g) (off := off + l * sz) (cap := cap - l) hM hone (by omega) (fun row hrow => hlen row (List.mem_of_mem_drop (List.mem_of_mem_take hrow))) (by rw [hll]; omega)
                (fun i row j x u hi hxx hu => by
                  rw [List.getElem?_take] at hi
                  split at hi
                  · rw [List.getElem?_drop] at hi
                    exact hrel (l + i) row j x u hi hxx (by rw [Nat.add_mul, ← Nat.add_assoc]; exact hu)
                  · cases hi)
              rw [hll] at key
              rw [← hse, hsz]
              exact key
        · cases h
      · rename_i sz n f
        simp only [Option.bind_eq_some_iff] at h
        obtain ⟨⟨e, te⟩, he, h⟩ := h
        obtain ⟨hu, hte⟩ := elemT_some he
        obtain ⟨ie, _, _, hie, _, _, _, _, hse, _, _, _⟩ := tiOf_some hte
        simp only at h
        split at h
        · rename_i hsz
          simp only [Option.map_eq_some_iff] at h
          obtain ⟨⟨l, m⟩, hc, rfl⟩ := h
          cases hx.v (fun _ _ e => by cases e) with
          | vf0 _ _ a cap =>
            obtain ⟨c1, c2, hb⟩ := cut_bounds (P := P) (w := w) hc h1 h2 true 0 cap rfl (Nat.zero_le _)
            have hm : m = 0 := by simpa using c2
            have hl : l = 0 := by omega
            subst hm; subst hl
            exact ⟨_, run_slice_slice hu hie a 0 cap 0 0 cap _ _ _ hb, by simpa using VRel.vf0 sz _ _ _⟩
          | @vf _ _ _ g off cap c e' fl hM hn hlen hin hrel =>
            obtain ⟨c1, c2, hb⟩ := cut_bounds (P := P) (w := w) hc h1 h2 true n cap rfl hn
            have hrun := run_slice_slice (w := w) hu hie (some ⟨g, off, none⟩) n cap l m cap vlo vhi none hb
            by_cases hcl : cap = l
            · rw [if_pos hcl] at hrun
              have hml : m - l = 0 := by omega
              refine ⟨_, hrun, ?_⟩
              show VRel M ρ hp (.vf sz (m - l) fun i => f (l + i)) _
              rw [hml]
              exact .vf0 _ _ _ _
            · rw [if_neg hcl] at hrun
              simp only [Option.map_some, Addr.add_mid] at hrun
              refine ⟨_, hrun, ?_⟩
              have hmul : (m - l) * sz + l * sz ≤ n * sz := by
                rw [← Nat.add_mul]
                exact Nat.mul_le_mul_right _ (by omega)
              rw [← hse, hsz]
              have hin2 : off + l * sz + (m - l) * sz ≤ c.size := by omega
              refine VRel.vf (off := off + l * sz) (cap := cap - l) hM (by omega) (fun i hi => hlen (l + i) (by omega)) hin2 fun i j x u hi hxx hu' => hrel (l + i) j x u (by omega) hxx (by rw [Nat.add_mul, ← Nat.add_assoc]; exact hu')
        · cases h
      · exact absurd rfl (hvi _ _ _ _)
      · rename_i k r0 c0 tt
        simp only [Option.bind_eq_some_iff] at h
        obtain ⟨⟨n, te⟩, he, b, hb0, h⟩ := h
        obtain ⟨e, hu, hte⟩ := arrT_some he
        obtain ⟨ie, _, _, hie, _, _, _, _, hse, _, _, _⟩ := tiOf_some hte
        obtain ⟨hb1, hb2⟩ := fresh_some hb0
        simp only at h
        split at h
        · rename_i hcnd
          obtain ⟨hsz, hrn, hcn⟩ := hcnd
          simp only [Option.map_eq_some_iff] at h
          obtain ⟨⟨l, m⟩, hc, rfl⟩ := h
          cases hx.v (fun _ _ e => by cases e) with
          | @ptr _ _ _ _ _ b' pl hb' hl hle _ hpt =>
            rw [hb1] at hb'
            cases hb'
            rw [hpt hb2]
            obtain ⟨c1, c2, hb⟩ := cut_bounds (P := P) (w := w) hc h1 h2 false n n rfl (Nat.le_refl _)
            refine ⟨.slice (some (if n = l then ⟨pl.blk, r0 * b.sz + c0, none⟩ else (⟨pl.blk, r0 * b.sz + c0, none⟩ : Addr).add (l * ie.size))) (m - l) (n - l), by simp [Instr.sliceAt, run_underlying hu, Instr.sureAddr, hb, run_sizeOf' hie], ?_⟩
            refine .ssl hb1 hl (by omega) rfl fun _ => ?_
            by_cases hcl : n = l
            · rw [if_pos hcl]
              exact ⟨_, _, rfl, by omega, fun _ => by omega⟩
            · rw [if_neg hcl, Addr.add_mid]
              refine ⟨_, _, rfl, by omega, fun _ => ?_⟩
              rw [← hse, hsz]
              omega
        · cases h
      · cases h
  · -- s[0:0:0]
    rename_i mm
    split at h
    · rename_i hc
      obtain ⟨rfl, hlo, rfl⟩ := hc
      cases vmx with
      | none => exact h3.elim
      | some vm =>
        obtain ⟨km, rfl⟩ := h3
        cases vhi with
        | none => exact h2.elim
        | some vh =>
          obtain ⟨kh, rfl⟩ := h2
          have hbd : ∀ n cap, (Instr.sliceBounds true n cap vlo (some (.int kh 0)) (some (.int km 0))).run P w = .ok (0, 0, 0) w := by
            intro n cap
            cases lo' with
            | none =>
              cases vlo with
              | some v => exact h1.elim
              | none => simp [Instr.sliceBounds, Instr.sliceBound, asIntOf]
            | some p =>
              cases vlo with
              | none => exact h1.elim
              | some v =>
                obtain ⟨k, rfl⟩ := h1
                simp at hlo
                subst hlo
                simp [Instr.sliceBounds, Instr.sliceBound, asIntOf]
          split at h
          · simp only [Option.map_eq_some_iff] at h
            obtain ⟨⟨e, te⟩, he, rfl⟩ := h
            obtain ⟨hu, hte⟩ := elemT_some he
            obtain ⟨ie, _, _, hie, _, _, _, _, hse, _, _, _⟩ := tiOf_some hte
            cases hx.v (fun _ _ e => by cases e)
            exact ⟨_, run_slice_slice hu hie none 0 0 0 0 0 _ _ _ (hbd 0 0), by simpa using VRel.nilsl⟩
          · simp only [Option.map_eq_some_iff] at h
            obtain ⟨⟨e, te⟩, he, rfl⟩ := h
            obtain ⟨hu, hte⟩ := elemT_some he
            obtain ⟨ie, _, _, hie, _, _, _, _, hse, _, _, _⟩ := tiOf_some hte
            cases hx.v (fun _ _ e => by cases e) with
            | esl a => exact ⟨_, run_slice_slice hu hie a 0 0 0 0 0 _ _ _ (hbd 0 0), by simpa using VRel.esl a⟩
          · rename_i k r0 n tt
            simp only [Option.bind_eq_some_iff, Option.map_eq_some_iff] at h
            obtain ⟨⟨e, te⟩, he, b, hb0, rfl⟩ := h
            obtain ⟨hu, hte⟩ := elemT_some he
            obtain ⟨ie, _, _, hie, _, _, _, _, hse, _, _, _⟩ := tiOf_some hte
            obtain ⟨hb1, hb2⟩ := fresh_some hb0
            cases hx.v (fun _ _ e => by cases e) with
            | @sl _ _ _ _ _ b' pl hb' hl hle _ hsl =>
              rw [hb1] at hb'
              cases hb'
              obtain ⟨off, cap, rfl, hnc, hoff, hcap⟩ := hsl hb2
              exact ⟨_, run_slice_slice hu hie _ n cap 0 0 0 _ _ _ (hbd n cap), by simpa using VRel.esl (some _)⟩
          · rename_i sz n f
            simp only [Option.map_eq_some_iff] at h
            obtain ⟨⟨e, te⟩, he, rfl⟩ := h
            obtain ⟨hu, hte⟩ := elemT_some he
            obtain ⟨ie, _, _, hie, _, _, _, _, hse, _, _, _⟩ := tiOf_some hte
            cases hx.v (fun _ _ e => by cases e) with
            | vf0 _ _ a cap => exact ⟨_, run_slice_slice hu hie a 0 cap 0 0 0 _ _ _ (hbd 0 cap), by simpa using VRel.esl a⟩
            | @vf _ _ _ g off cap c e' fl hM hn hlen hin hrel => exact ⟨_, run_slice_slice hu hie (some ⟨g, off, none⟩) n cap 0 0 0 _ _ _ (hbd n cap), by simpa using VRel.esl (some _)⟩
          · exact absurd rfl (hvi _ _ _ _)
          · cases h
    · cases h

theorem slice_rel {t : Nat} {x r : AV} {lo' hi' mx : Option Int} {v : Value} {vlo vhi vmx : Option Value} (h : sliceA (tiOf P) hp t x lo' hi' mx = some r) (hx : ERel M ρ β hp x v)
    (h1 : BndR lo' vlo) (h2 : BndR hi' vhi) (h3 : BndR mx vmx) : ∃ u, (Instr.sliceAt t v vlo vhi vmx).run P w = .ok u w ∧ VRel M ρ hp r u := by
  cases x with
  | vi k sz n q =>
    cases hx.v (fun _ _ e => by cases e) with
    | vi h' =>
      cases mx with
      | some m =>
        have hcore : sliceA (tiOf P) hp t (.vf sz n fun i => cellsI k sz (q i)) lo' hi' (some m) = some r := by
          unfold sliceA at h ⊢
          exact h
        exact slice_core (β := β) (w := w) hcore (.inr h') (fun _ _ _ _ e => by cases e) h1 h2 h3
      | none =>
        unfold sliceA at h
        simp only [Option.bind_eq_some_iff] at h
        obtain ⟨⟨e, te⟩, he, h⟩ := h
        simp only at h
        split at h
        · rename_i hsz
          simp only [Option.map_eq_some_iff] at h
          obtain ⟨⟨l, m⟩, hc, rfl⟩ := h
          have hcore : sliceA (tiOf P) hp t (.vf sz n fun i => cellsI k sz (q i)) lo' hi' none = some (.vf sz (m - l) fun i => cellsI k sz (q (l + i))) := by
            unfold sliceA
            simp only [he, Option.bind_some, hsz, if_true, hc, Option.map_some]
          obtain ⟨u, hu, hr⟩ := slice_core (β := β) (w := w) hcore (.inr h') (fun _ _ _ _ e => by cases e) h1 h2 h3
          refine ⟨u, hu, .vi ?_⟩
          simp only [shiftF_eq]
          exact hr
        · cases h
  | _ => exact slice_core h hx (fun _ _ _ _ e => by cases e) h1 h2 h3

theorem len_core {t : Nat} {x r : AV} {v : Value} (ty : Nat) (h : lenA (tiOf P) hp t x = some r) (hx : ERel M ρ β hp x v) (hvi : ∀ k sz n q, x ≠ .vi k sz n q) {tys : Array Nat} {vals : Array Value} (g1 : tys[0]? = some t) (g2 : vals[0]? = some v) :
    ∃ u, (Builtin.len_ tys ty vals).run P w = .ok u w ∧ VRel M ρ hp r u := by
  unfold lenA at h
  split at h
  · rename_i s
    rw [hx.str_inv] at g2
    cases hs : isStr (tiOf P) t with
    | false => rw [hs] at h; cases h
    | true => rw [hs] at h; cases h; exact ⟨.int .i64 s.size, by simp [Builtin.len_, g1, g2, run_underlying (str_type hs), goInt], .int _ _⟩
  · simp only [Option.map_eq_some_iff] at h
    obtain ⟨⟨e, te⟩, he, rfl⟩ := h
    obtain ⟨hu, _⟩ := elemT_some he
    cases hx.v (fun _ _ e => by cases e)
    exact ⟨.int .i64 0, by simp [Builtin.len_, g1, g2, run_underlying hu, goInt], .int _ _⟩
  · simp only [Option.map_eq_some_iff] at h
    obtain ⟨⟨e, te⟩, he, rfl⟩ := h
    obtain ⟨hu, _⟩ := elemT_some he
    cases hx.v (fun _ _ e => by cases e) with
    | esl a => exact ⟨.int .i64 0, by simp [Builtin.len_, g1, g2, run_underlying hu, goInt], .int _ _⟩
  · rename_i sz rows
    simp only [Option.map_eq_some_iff] at h
    obtain ⟨⟨e, te⟩, he, rfl⟩ := h
    obtain ⟨hu, _⟩ := elemT_some he
    cases hx.v (fun _ _ e => by cases e) with
    | vs0 _ a cap => exact ⟨.int .i64 0, by simp [Builtin.len_, g1, g2, run_underlying hu, goInt], .int _ _⟩
    | vs _ _ _ _ _ _ => exact ⟨.int .i64 rows.length, by simp [Builtin.len_, g1, g2, run_underlying hu, goInt], .int _ _⟩
  · rename_i sz n f
    simp only [Option.map_eq_some_iff] at h
    obtain ⟨⟨e, te⟩, he, rfl⟩ := h
    obtain ⟨hu, _⟩ := elemT_some he
    cases hx.v (fun _ _ e => by cases e) with
    | vf0 _ _ a cap => exact ⟨.int .i64 0, by simp [Builtin.len_, g1, g2, run_underlying hu, goInt], .int _ _⟩
    | vf _ _ _ _ _ => exact ⟨.int .i64 n, by simp [Builtin.len_, g1, g2, run_underlying hu, goInt], .int _ _⟩
  · exact absurd rfl (hvi _ _ _ _)
  · rename_i n m q
    simp only [Option.map_eq_some_iff] at h
    obtain ⟨⟨e, te⟩, he, rfl⟩ := h
    obtain ⟨hu, _⟩ := elemT_some he
    cases hx.v (fun _ _ e => by cases e) with
    | vm0 _ _ a cap => exact ⟨.int .i64 0, by simp [Builtin.len_, g1, g2, run_underlying hu, goInt], .int _ _⟩
    | vm _ _ _ _ => exact ⟨.int .i64 n, by simp [Builtin.len_, g1, g2, run_underlying hu, goInt], .int _ _⟩
  · rename_i k r0 n tt
    simp only [Option.bind_eq_some_iff, Option.map_eq_some_iff] at h
    obtain ⟨⟨e, te⟩, he, b, hb0, rfl⟩ := h
    obtain ⟨hu, _⟩ := elemT_some he
    obtain ⟨hb1, hb2⟩ := fresh_some hb0
    cases hx.v (fun _ _ e => by cases e) with
    | @sl _ _ _ _ _ b' pl hb' hl hle _ hsl =>
      rw [hb1] at hb'
      cases hb'
      obtain ⟨off, cap, rfl, hnc, hoff, hcap⟩ := hsl hb2
      exact ⟨.int .i64 n, by simp [Builtin.len_, g1, g2, run_underlying hu, goInt], .int _ _⟩
  · rename_i k r0 c0 n tt
    simp only [Option.bind_eq_some_iff, Option.map_eq_some_iff] at h
    obtain ⟨⟨e, te⟩, he, b, hb0, rfl⟩ := h
    obtain ⟨hu, _⟩ := elemT_some he
    obtain ⟨hb1, hb2⟩ := fresh_some hb0
    cases hx.v (fun _ _ e => by cases e) with
    | @ssl _ _ _ _ _ _ b' pl hb' hl hle _ hsl =>
      rw [hb1] at hb'
      cases hb'
      obtain ⟨off, cap, rfl, hnc, hoff⟩ := hsl hb2
      exact ⟨.int .i64 n, by simp [Builtin.len_, g1, g2, run_underlying hu, goInt], .int _ _⟩
  · simp only [Option.map_eq_some_iff] at h
    obtain ⟨⟨n, te⟩, he, rfl⟩ := h
    obtain ⟨e, hu, _⟩ := arrT_some he
    exact ⟨.int .i64 n, by simp [Builtin.len_, g1, g2, run_underlying hu, goInt], .int _ _⟩

theorem len_rel {t : Nat} {x r : AV} {v : Value} (ty : Nat) (h : lenA (tiOf P) hp t x = some r) (hx : ERel M ρ β hp x v) {tys : Array Nat} {vals : Array Value} (g1 : tys[0]? = some t) (g2 : vals[0]? = some v) :
    ∃ u, (Builtin.len_ tys ty vals).run P w = .ok u w ∧ VRel M ρ hp r u := by
  cases x with
  | vi k sz n q =>
    cases hx.v (fun _ _ e => by cases e) with
    | vi h' => exact len_core (β := β) (x := .vf sz n fun i => cellsI k sz (q i)) ty h (.inr h') (fun _ _ _ _ e => by cases e) g1 g2
  | _ => exact len_core ty h hx (fun _ _ _ _ e => by cases e) g1 g2

theorem indexAddr_core {t : Nat} {x i r : AV} {v vi : Value} (h : indexAddrA (tiOf P) hp t x i = some r) (hx : ERel M ρ β hp x v) (hvi : ∀ k sz n q, x ≠ .vi k sz n q) (hi : ERel M ρ β hp i vi) :
    ∃ u, (Instr.indexAt t v vi).run P w = .ok u w ∧ ERel M ρ β hp r u := by
  unfold indexAddrA at h
  split at h
  · rename_i kk i
    rw [hi.int_inv]
    split at h
    · rename_i k r0 n tt
      simp only [Option.bind_eq_some_iff] at h
      obtain ⟨b, hb0, ⟨e, te⟩, he, h⟩ := h
      obtain ⟨hu, hte⟩ := elemT_some he
      obtain ⟨ie, _, _, hie, _, _, _, _, hse, _, _, _⟩ := tiOf_some hte
      obtain ⟨hb1, hb2⟩ := fresh_some hb0
      simp only at h
      split at h
      · rename_i hc
        obtain ⟨hsz, h0, hn, hrn⟩ := hc
        cases h
        cases hx.v (fun _ _ e => by cases e) with
        | @sl _ _ _ _ _ b' pl hb' hl hle _ hsl =>
          rw [hb1] at hb'
          cases hb'
          obtain ⟨off, cap, rfl, hnc, hoff, hcap⟩ := hsl hb2
          have hn0 : 0 < n := by omega
          refine ⟨.pointer (some ((⟨pl.blk, off, none⟩ : Addr).add (i.toNat * ie.size))), by simp [Instr.indexAt, asIntOf, run_underlying hu, h0, hn, run_sizeOf' hie], .inr ?_⟩
          refine .ptr hb1 hl (by omega) rfl fun _ => ?_
          rw [Addr.add_mid, hoff (.inl hn0), ← hse, hsz, Nat.add_mul, Nat.add_zero]
      · cases h
    · rename_i k r0 c0 n tt
      simp only [Option.bind_eq_some_iff] at h
      obtain ⟨b, hb0, ⟨e, te⟩, he, h⟩ := h
      obtain ⟨hu, hte⟩ := elemT_some he
      obtain ⟨ie, _, _, hie, _, _, _, _, hse, _, _, _⟩ := tiOf_some hte
      obtain ⟨hb1, hb2⟩ := fresh_some hb0
      simp only at h
      split at h
      · rename_i hc
        obtain ⟨hsz, h0, hn⟩ := hc
        cases h
        cases hx.v (fun _ _ e => by cases e) with
        | @ssl _ _ _ _ _ _ b' pl hb' hl hle _ hsl =>
          rw [hb1] at hb'
          cases hb'
          obtain ⟨off, cap, rfl, hnc, hoff⟩ := hsl hb2
          have hn0 : 0 < n := by omega
          refine ⟨.pointer (some ((⟨pl.blk, off, none⟩ : Addr).add (i.toNat * ie.size))), by simp [Instr.indexAt, asIntOf, run_underlying hu, h0, hn, run_sizeOf' hie], .inr ?_⟩
          refine .ptr hb1 hl (by omega) rfl fun _ => ?_
          rw [Addr.add_mid, hoff hn0, ← hse, hsz, Nat.mul_one, Nat.add_assoc]
      · cases h
    · rename_i sz rows
      simp only [Option.bind_eq_some_iff] at h
      obtain ⟨⟨e, te⟩, he, h⟩ := h
      obtain ⟨hu, hte⟩ := elemT_some he
      obtain ⟨ie, _, _, hie, _, _, _, _, hse, _, _, _⟩ := tiOf_some hte
      simp only at h
      split at h
      · rename_i hc
        obtain ⟨hsz, h0⟩ := hc
        simp only [Option.map_eq_some_iff] at h
        obtain ⟨row, hrow, rfl⟩ := h
        have hil : i.toNat < rows.length := (List.getElem?_eq_some_iff.1 hrow).1
        cases hx.v (fun _ _ e => by cases e) with
        | vs0 _ a cap => simp at hil
        | @vs _ _ g off cap c e' f hM hone hn hlen hin hrel =>
          have hlt : i < (rows.length : Int) := by omega
          refine ⟨.pointer (some ((⟨g, off, none⟩ : Addr).add (i.toNat * ie.size))), by simp [Instr.indexAt, asIntOf, run_underlying hu, h0, hlt, run_sizeOf' hie], .inr ?_⟩
          rw [Addr.add_mid, ← hse, hsz]
          have hrl := hlen row (List.mem_of_getElem? hrow)
          have hmul := Nat.mul_le_mul_right sz (show i.toNat + 1 ≤ rows.length by omega)
          rw [Nat.succ_mul] at hmul
          have := VRel.vp (ρ := ρ) (hp := hp) (row := row) (q := 0) (off := off + i.toNat * sz) hM (fun j u _ hu => hone _ u hu) (by omega) (fun j x u hx hu => hrel i.toNat row j x u hrow hx hu)
          simpa using this
      · cases h
    · rename_i sz n f
      simp only [Option.bind_eq_some_iff] at h
      obtain ⟨⟨e, te⟩, he, h⟩ := h
      obtain ⟨hu, hte⟩ := elemT_some he
      obtain ⟨ie, _, _, hie, _, _, _, _, hse, _, _, _⟩ := tiOf_some hte
      simp only at h
      split at h
      · rename_i hc
        obtain ⟨hsz, h0, hlt⟩ := hc
        cases h
        cases hx.v (fun _ _ e => by cases e) with
        | vf0 _ _ a cap => simp at hlt; omega
        | @vf _ _ _ g off cap c e' fl hM hn hlen hin hrel =>
          refine ⟨.pointer (some ((⟨g, off, none⟩ : Addr).add (i.toNat * ie.size))), by simp [Instr.indexAt, asIntOf, run_underlying hu, h0, hlt, run_sizeOf' hie], .inr ?_⟩
          rw [Addr.add_mid, ← hse, hsz]
          have hil : i.toNat < n := by omega
          have hrl := hlen i.toNat hil
          have hmul := Nat.mul_le_mul_right sz (show i.toNat + 1 ≤ n by omega)
          rw [Nat.succ_mul] at hmul
          have := VRel.vp (ρ := ρ) (hp := hp) (row := f i.toNat) (q := 0) (off := off + i.toNat * sz) hM (fun j u hj hu => (hrel i.toNat j _ u hil (List.getElem?_eq_getElem hj) hu).one) (by omega) (fun j x u hx hu => (hrel i.toNat j x u hil hx hu).v)
          simpa using this
      · cases h
    · exact absurd rfl (hvi _ _ _ _)
    · rename_i n m q
      simp only [Option.bind_eq_some_iff] at h
      obtain ⟨⟨e, te⟩, he, h⟩ := h
      obtain ⟨hu, hte⟩ := elemT_some he
      obtain ⟨ie, _, _, hie, _, _, _, _, hse, _, _, _⟩ := tiOf_some hte
      simp only at h
      split at h
      · rename_i hc
        obtain ⟨hsz, h0, hlt⟩ := hc
        cases h
        cases hx.v (fun _ _ e => by cases e) with
        | vm0 _ _ a cap => simp at hlt; omega
        | @vm _ _ _ g off cap c e' fl hM hn hin hrel =>
          refine ⟨.pointer (some ((⟨g, off, none⟩ : Addr).add (i.toNat * ie.size))), by simp [Instr.indexAt, asIntOf, run_underlying hu, h0, hlt, run_sizeOf' hie], .inr ?_⟩
          rw [Addr.add_mid, ← hse, hsz]
          have hil : i.toNat < n := by omega
          have := VRel.vp (ρ := ρ) (hp := hp) (row := [.vi .i64 1 (m i.toNat) fun j _ => q i.toNat j]) (q := 0) (off := off + i.toNat) hM (fun j u hj hu => by
            have hj0 : j = 0 := by simpa using hj
            subst hj0
            exact (hrel i.toNat u hil hu).one rfl fun _ e => by cases e) (by simp; omega) (fun j x u hx hu => by
            cases j with
            | zero => simp at hx; subst hx; exact hrel i.toNat u hil hu
            | succ j => simp at hx)
          simpa using this
      · cases h
    · rename_i d c0
      simp only [Option.bind_eq_some_iff] at h
      obtain ⟨⟨n, te⟩, he, h⟩ := h
      obtain ⟨e, hu, hte⟩ := arrT_some he
      obtain ⟨ie, _, _, hie, _, _, _, _, hse, _, _, _⟩ := tiOf_some hte
      simp only at h
      split at h
      · rename_i hc
        obtain ⟨h0, hn⟩ := hc
        cases h
        obtain ⟨g, hg, rfl⟩ := hx.lptr_inv
        refine ⟨.pointer (some ((⟨g, c0, none⟩ : Addr).add (i.toNat * ie.size))), by simp [Instr.indexAt, asIntOf, Instr.sureAddr, run_underlying hu, h0, hn, run_sizeOf' hie], .inl ⟨d, _, g, rfl, hg, ?_⟩⟩
        rw [Addr.add_mid, hse]
      · cases h
    · rename_i row c0
      simp only [Option.bind_eq_some_iff] at h
      obtain ⟨⟨n, te⟩, he, h⟩ := h
      obtain ⟨e, hu, hte⟩ := arrT_some he
      obtain ⟨ie, _, _, hie, _, _, _, _, hse, _, _, _⟩ := tiOf_some hte
      simp only at h
      split at h
      · rename_i hc
        obtain ⟨h0, hn⟩ := hc
        cases h
        cases hx.v (fun _ _ e => by cases e) with
        | @vp _ _ g off c e' f hM hone hin hrel =>
          refine ⟨.pointer (some ((⟨g, off + c0, none⟩ : Addr).add (i.toNat * ie.size))), by simp [Instr.indexAt, asIntOf, Instr.sureAddr, run_underlying hu, h0, hn, run_sizeOf' hie], .inr ?_⟩
          rw [Addr.add_mid, ← hse, Nat.add_assoc]
          exact .vp hM hone hin hrel
      · cases h
    · rename_i k r0 c0 tt
      simp only [Option.bind_eq_some_iff] at h
      obtain ⟨b, hb0, ⟨n, te⟩, he, h⟩ := h
      obtain ⟨e, hu, hte⟩ := arrT_some he
      obtain ⟨ie, _, _, hie, _, _, _, _, hse, _, _, _⟩ := tiOf_some hte
      obtain ⟨hb1, hb2⟩ := fresh_some hb0
      simp only at h
      split at h
      · rename_i hc
        obtain ⟨h0, hn⟩ := hc
        cases h
        cases hx.v (fun _ _ e => by cases e) with
        | @ptr _ _ _ _ _ b' pl hb' hl hle _ hpt =>
          rw [hb1] at hb'
          cases hb'
          rw [hpt hb2]
          refine ⟨.pointer (some ((⟨pl.blk, r0 * b.sz + c0, none⟩ : Addr).add (i.toNat * ie.size))), by simp [Instr.indexAt, asIntOf, Instr.sureAddr, run_underlying hu, h0, hn, run_sizeOf' hie], .inr ?_⟩
          refine .ptr hb1 hl (by omega) rfl fun _ => ?_
          rw [Addr.add_mid, ← hse, Nat.add_assoc]
      · cases h
    · cases h
  · cases h

theorem indexAddr_rel {t : Nat} {x i r : AV} {v vi : Value} (h : indexAddrA (tiOf P) hp t x i = some r) (hx : ERel M ρ β hp x v) (hi : ERel M ρ β hp i vi) :
    ∃ u, (Instr.indexAt t v vi).run P w = .ok u w ∧ ERel M ρ β hp r u := by
  cases x with
  | vi k sz n q =>
    cases hx.v (fun _ _ e => by cases e) with
    | vi h' => exact indexAddr_core (β := β) (x := .vf sz n fun i => cellsI k sz (q i)) (by cases i <;> exact h) (.inr h') (fun _ _ _ _ e => by cases e) hi
  | _ => exact indexAddr_core h hx (fun _ _ _ _ e => by cases e) hi

theorem index_rel {t : Nat} {x i r : AV} {v vi : Value} (h : indexA (tiOf P) t x i = some r) (hx : ERel M ρ β hp x v) (hi : ERel M ρ β hp i vi) : ∃ u, (Instr.index t v vi).run P w = .ok u w ∧ VRel M ρ hp r u := by
  unfold indexA at h
  split at h
  · rename_i kk i
    rw [hi.int_inv]
    split at h
    · rename_i s
      rw [hx.str_inv]
      cases hs : isStr (tiOf P) t with
      | false => rw [hs] at h; cases h
      | true =>
        rw [hs] at h
        simp only [cond_true] at h
        split at h
        · rename_i h0
          simp only [Option.map_eq_some_iff] at h
          obtain ⟨b, hb, rfl⟩ := h
          have hb' : s[i.toNat]? = some b := by
            rw [← hb]
            rfl
          exact ⟨.int .u8 b.toNat, by simp [Instr.index, asIntOf, run_underlying (str_type hs), h0, hb'], .int _ _⟩
        · cases h
    · rename_i cs
      simp only [Option.bind_eq_some_iff] at h
      obtain ⟨⟨n, te⟩, he, h⟩ := h
      obtain ⟨e, hu, hte⟩ := arrT_some he
      obtain ⟨ie, _, _, hie, _, _, _, _, hse, _, _, _⟩ := tiOf_some hte
      simp only at h
      split at h
      · rename_i hc
        obtain ⟨h0, hn⟩ := hc
        cases hx.v (fun _ _ e => by cases e) with
        | @agg _ c hs hone hrel =>
          obtain ⟨u, hu', hr⟩ := partOf_rel hte h (by rw [hs]; exact Nat.le_refl _) hone hrel w
          exact ⟨u, by simp only [Instr.index, Sem.run_bind, asIntOf, Sem.run_pure, Result.andThen_ok, run_underlying hu, h0, hn, and_self, if_true, run_sizeOf' hie]; rw [← hse]; exact hu', hr⟩
      · cases h
    · cases h
  · cases h

theorem field_rel {t f : Nat} {x r : AV} {v : Value} (h : fieldA (tiOf P) t x f = some r) (hx : ERel M ρ β hp x v) : ∃ u, (Instr.field t v f).run P w = .ok u w ∧ VRel M ρ hp r u := by
  unfold fieldA at h
  split at h
  · simp only [Option.bind_eq_some_iff] at h
    obtain ⟨⟨off, tf⟩, hf, h⟩ := h
    obtain ⟨gs, g, hu, hg, rfl, htf⟩ := fieldT_some hf
    cases hx.v (fun _ _ e => by cases e) with
    | @agg _ c hs hone hrel =>
      obtain ⟨u, hu', hr⟩ := partOf_rel htf h (by rw [hs]; exact Nat.le_refl _) hone hrel w
      exact ⟨u, by simp [Instr.field, run_underlying hu, hg, asAgg, hu'], hr⟩
  · cases h

theorem fieldAddr_rel {t f : Nat} {p r : AV} {v : Value} (h : fieldAddrA (tiOf P) hp t p f = some r) (hx : ERel M ρ β hp p v) : ∃ u, (Instr.fieldAt t v f).run P w = .ok u w ∧ ERel M ρ β hp r u := by
  unfold fieldAddrA at h
  simp only [Option.bind_eq_some_iff] at h
  obtain ⟨⟨off, tf⟩, hf, h⟩ := h
  obtain ⟨gs, g, hu, hg, rfl, htf⟩ := fieldT_some hf
  obtain ⟨ie, _, _, hie, _, _, _, _, hse, _, _, _⟩ := tiOf_some htf
  simp only at h
  split at h
  · cases h
  · rename_i hne
    rw [hse] at hne
    have hplace : ∀ b o, (fieldPlace ⟨b, o, none⟩ g).run P w = .ok ⟨b, o + g.offset, none⟩ w := fun b o => by simp [fieldPlace, run_sizeOf' hie, hne, Addr.add_mid]
    split at h
    · rename_i d c0
      cases h
      obtain ⟨gg, hgg, rfl⟩ := hx.lptr_inv
      exact ⟨_, by simp [Instr.fieldAt, run_underlying hu, hg, Instr.sureAddr, hplace], .inl ⟨d, _, gg, rfl, hgg, rfl⟩⟩
    · rename_i row q
      cases h
      cases hx.v (fun _ _ e => by cases e) with
      | @vp _ _ gg off c e' ff hM hone hin hrel =>
        refine ⟨.pointer (some ⟨gg, off + q + g.offset, none⟩), by simp [Instr.fieldAt, run_underlying hu, hg, Instr.sureAddr, hplace], .inr ?_⟩
        rw [Nat.add_assoc]
        exact .vp hM hone hin hrel
    · rename_i k r0 c0 tt
      simp only [Option.map_eq_some_iff] at h
      obtain ⟨b, hb0, rfl⟩ := h
      obtain ⟨hb1, hb2⟩ := fresh_some hb0
      cases hx.v (fun _ _ e => by cases e) with
      | @ptr _ _ _ _ _ b' pl hb' hl hle _ hpt =>
        rw [hb1] at hb'
        cases hb'
        rw [hpt hb2]
        refine ⟨.pointer (some ⟨pl.blk, r0 * b.sz + c0 + g.offset, none⟩), by simp [Instr.fieldAt, run_underlying hu, hg, Instr.sureAddr, hplace], .inr ?_⟩
        exact .ptr hb1 hl (by omega) rfl fun _ => by rw [Nat.add_assoc]
    · cases h

end
end Go.Proofs.Ytjdciikfbinchaa.Abs
