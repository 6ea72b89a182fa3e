/- The abstract machine's operations that touch no memory: what they tell is so. -/
import Derived.Test.YtjdciikfbinchaaAbs3
import Derived.WalkKit
import Derived.WalkLawsBesides
namespace Go.Proofs.Ytjdciikfbinchaa.Abs
open Go

/-- what a slot holds -/
def ERel (M : Mem) (ρ : Rho) (β : Nat → Option Nat) (hp : List Blk) (x : AV) (v : Value) : Prop :=
  (∃ d c g, x = .lptr d c ∧ β d = some g ∧ v = .pointer (some ⟨g, c, none⟩)) ∨ VRel M ρ hp x v

structure Adv (w w' : World) : Prop where
  os : w'.os = w.os
  tape : w'.tape = w.tape
  output : w'.output = w.output
  size : w.heap.size ≤ w'.heap.size
theorem Adv.refl (w : World) : Adv w w := ⟨rfl, rfl, rfl, Nat.le_refl _⟩
theorem Adv.trans {a b c : World} (h : Adv a b) (k : Adv b c) : Adv a c := ⟨k.os.trans h.os, k.tape.trans h.tape, k.output.trans h.output, Nat.le_trans h.size k.size⟩

/-- the operation comes to an end, with a value and a world of which R holds -/
def Outs (P : Program) (o : Oper) (a : Act) (w : World) (R : Value → World → Prop) : Prop :=
  ∀ (next : Act → World → Prop) (Q : Exit → Act → World → Prop), (∀ u w', R u w' → next (a.put o.dst u) w') → o.wp P a w next Q

section
variable {P : Program} {o : Oper} {a : Act} {w w' : World} {R : Value → World → Prop}
theorem Outs.value {u : Value} (h : (execOp a.eval o).run P w = .ok (.value u) w') (hR : R u w') : Outs P o a w R := fun next Q k => by
  unfold Oper.wp
  rw [h]
  exact k u w' hR
theorem Outs.skip (h : (execOp a.eval o).run P w = .ok .skip w') (hR : R undef w') : Outs P o a w R := fun next Q k => by
  unfold Oper.wp
  rw [h]
  exact k undef w' hR
theorem Outs.enter {f : FuncId} {vs : Array Value} (h : (execOp a.eval o).run P w = .ok (.enter f vs) w') (hc : Calls P f vs w' fun e w'' => ∃ u, e = .returned u ∧ R u w'') : Outs P o a w R := fun next Q k => by
  unfold Oper.wp
  rw [h]
  exact hc.mono fun e w'' ⟨u, he, hR⟩ => by subst he; exact k u w'' hR
end

/-! ### types -/
theorem tiOf_some {P : Program} {t : Nat} {ti : TI} (h : tiOf P t = some ti) :
    ∃ i z d, P.info? t = some i ∧ i.zero = some z ∧ zeroCells z.cells.toList = some ti.zero ∧ ti.zero.length = i.size ∧ ti.d = tyOf P t ∧ ti.size = i.size ∧ ti.bytes = i.bytes ∧ P.underlying t = some d ∧ (∀ ls, ti.leaf = some ls → leavesT P 6 t = some ls ∧ agg? (tyOf P t) = true) := by
  unfold tiOf at h
  split at h
  · rename_i i hi
    split at h
    · rename_i z hz
      split at h
      · rename_i zs hzs
        split at h
        · rename_i hl
          cases h
          obtain ⟨d, hd⟩ := Option.isSome_iff_exists.1 hl.2
          exact ⟨i, z, d, hi, hz, hzs, hl.1, rfl, rfl, rfl, hd, fun ls hls => by
            dsimp only at hls
            split at hls
            · rename_i ha; exact ⟨hls, ha⟩
            · cases hls⟩
        · cases h
      · cases h
    · cases h
  · cases h

theorem tyOf_eq {P : Program} {t : Nat} : (∀ k, tyOf P t = .int k → P.underlying t = some (.int k)) ∧ (tyOf P t = .str → P.underlying t = some .string) ∧ (tyOf P t = .bool → P.underlying t = some .bool) ∧
    (∀ e, tyOf P t = .slice e → P.underlying t = some (.slice e)) ∧ (∀ n e, tyOf P t = .array n e → P.underlying t = some (.array n e)) ∧
    (∀ fs, tyOf P t = .struct fs → ∃ gs, P.underlying t = some (.struct gs) ∧ fs = gs.toList.map fun f => (f.offset, f.type)) := by
  unfold tyOf
  cases h : P.underlying t with
  | none => simp
  | some d => cases d <;> simp <;> exact fun _ h => h.symm

theorem agg_eq {P : Program} {t : Nat} : agg? (tyOf P t) = (match P.underlying t with | some (.struct _) | some (.array _ _) => true | _ => false) := by
  unfold tyOf
  cases h : P.underlying t with
  | none => rfl
  | some d => cases d <;> rfl

section
variable {P : Program} {w : World}

theorem run_typeInfo' {t : Nat} {i : TypeInfo} (h : P.info? t = some i) : (typeInfo t).run P w = .ok i w := by simp [typeInfo, h]
theorem run_sizeOf' {t : Nat} {i : TypeInfo} (h : P.info? t = some i) : (sizeOf t).run P w = .ok i.size w := by simp [Go.sizeOf, run_typeInfo' h]
theorem run_isAgg' {t : Nat} {d : TypeDesc} (hd : P.underlying t = some d) : (isAgg t).run P w = .ok (agg? (tyOf P t)) w := by
  rw [agg_eq]
  simp only [isAgg, Sem.run_bind, run_underlying hd, Result.andThen_ok, hd]
  cases d <;> rfl

/-- a part of an aggregate -/
theorem run_part {t : Nat} {i : TypeInfo} {d : TypeDesc} (hi : P.info? t = some i) (hd : P.underlying t = some d) {c : Array Value} {off : Nat} {u : Value}
    (h : if agg? (tyOf P t) = true then u = .agg (c.extract off (off + i.size)) else c[off]? = some u) : (part t c off).run P w = .ok u w := by
  unfold part
  simp only [Sem.run_bind, run_isAgg' hd, Result.andThen_ok]
  split
  · rename_i ha
    rw [if_pos ha] at h
    simp [run_sizeOf' hi, h]
  · rename_i ha
    rw [if_neg ha] at h
    simp [h]
end


section
variable {M : Mem} {ρ : Rho} {β : Nat → Option Nat} {hp : List Blk}

theorem VRel.int_inv {k : IntKind} {n : Int} {v : Value} (h : VRel M ρ hp (.int k n) v) : v = .int k n := by cases h; rfl
theorem VRel.bool_inv {b : Bool} {v : Value} (h : VRel M ρ hp (.bool b) v) : v = .bool b := by cases h; rfl
theorem VRel.str_inv {s : ByteArray} {v : Value} (h : VRel M ρ hp (.str s) v) : v = .string s := by cases h; rfl
theorem ERel.v {x : AV} {v : Value} (h : ERel M ρ β hp x v) (hx : ∀ d c, x ≠ .lptr d c) : VRel M ρ hp x v := by
  rcases h with ⟨d, c, g, hxe, _⟩ | h
  · exact absurd hxe (hx d c)
  · exact h
theorem ERel.noL {x : AV} {v : Value} (h : ERel M ρ β hp x v) (hx : x.noL = true) : VRel M ρ hp x v := h.v fun d c e => by subst e; cases hx
theorem ERel.int_inv {k : IntKind} {n : Int} {v : Value} (h : ERel M ρ β hp (.int k n) v) : v = .int k n := (h.v fun _ _ e => by cases e).int_inv
theorem ERel.bool_inv {b : Bool} {v : Value} (h : ERel M ρ β hp (.bool b) v) : v = .bool b := (h.v fun _ _ e => by cases e).bool_inv
theorem ERel.str_inv {s : ByteArray} {v : Value} (h : ERel M ρ β hp (.str s) v) : v = .string s := (h.v fun _ _ e => by cases e).str_inv
theorem ERel.lptr_inv {d c : Nat} {v : Value} (h : ERel M ρ β hp (.lptr d c) v) : ∃ g, β d = some g ∧ v = .pointer (some ⟨g, c, none⟩) := by
  rcases h with ⟨d', c', g, hx, hg, hv⟩ | h
  · cases hx; exact ⟨g, hg, hv⟩
  · cases h
theorem ERel.mono {M' : Mem} {ρ' : Rho} {hp' : List Blk} {x : AV} {v : Value} (h : ERel M ρ β hp x v) (hM : SubM M M') (hE : Ext ρ hp ρ' hp') : ERel M' ρ' β hp' x v :=
  h.imp id fun h => h.mono hM hE
theorem VRel.e {x : AV} {v : Value} (h : VRel M ρ hp x v) : ERel M ρ β hp x v := .inr h

theorem constAV_rel {v : Value} {x : AV} (h : constAV v = some x) : VRel M ρ hp x v := by
  unfold constAV at h
  split at h <;> cases h
  · exact .bool _
  · exact .int _ _
  · exact .str _
  · exact .nilptr
  · exact .nilsl

theorem opd_rel {env : List (Nat × AV)} {a : Act} {x : Operand} {v : AV} (h : opd env x = some v) (hE : ∀ t, x = .tmp t → ERel M ρ β hp (get env t) (a.tmps.getD t undef)) : ERel M ρ β hp v (a.eval x) := by
  cases x with
  | tmp t => simp only [opd, Option.some.injEq] at h; subst h; exact hE t rfl
  | const k => exact .inr (constAV_rel h)
  | func f =>
    simp only [opd, Option.some.injEq] at h
    subst h
    exact .inr (.fn rfl fun j x u hj _ => by simp at hj)
  | global g => cases h

theorem args_rel {env : List (Nat × AV)} {a : Act} : ∀ (l : List Operand) (vs : List AV), args env l = some vs → (∀ t, Operand.tmp t ∈ l → ERel M ρ β hp (get env t) (a.tmps.getD t undef)) →
    vs.length = l.length ∧ ∀ (j : Nat) (v : AV), vs[j]? = some v → ∃ x, l[j]? = some x ∧ opd env x = some v ∧ ERel M ρ β hp v (a.eval x)
  | [], vs, h, _ => by
    simp only [args, Option.some.injEq] at h
    subst h
    exact ⟨rfl, fun j v hj => by simp at hj⟩
  | x :: l, vs, h, hE => by
    simp only [args] at h
    split at h
    · rename_i v vs' hv hvs
      cases h
      obtain ⟨hl, hr⟩ := args_rel l vs' hvs fun t ht => hE t (List.mem_cons_of_mem _ ht)
      refine ⟨by simp [hl], fun j u hj => ?_⟩
      cases j with
      | zero => simp at hj; subst hj; exact ⟨x, rfl, hv, opd_rel hv fun t ht => hE t (ht ▸ List.mem_cons_self)⟩
      | succ j => exact hr j u (by simpa using hj)
    · cases h

/-- the arguments, as values -/
theorem args_vals {env : List (Nat × AV)} {a : Act} {l : Array Operand} {vs : List AV} (h : args env l.toList = some vs) (hE : ∀ t, Operand.tmp t ∈ l.toList → ERel M ρ β hp (get env t) (a.tmps.getD t undef)) :
    (l.map a.eval).size = vs.length ∧ ∀ (j : Nat) x u, vs[j]? = some x → (l.map a.eval)[j]? = some u → ERel M ρ β hp x u := by
  obtain ⟨h1, h2⟩ := args_rel l.toList vs h hE
  refine ⟨by simp [h1], fun j x u hx hu => ?_⟩
  obtain ⟨y, hy, _, hr⟩ := h2 j x hx
  have : l[j]? = some y := by simpa using hy
  simp [this] at hu
  subst hu
  exact hr

theorem allNoL_get : ∀ (vs : List AV), allNoL vs = true → ∀ (j : Nat) v, vs[j]? = some v → v.noL = true
  | [], _, j, v, h => by simp at h
  | x :: l, h, j, v, hj => by
    simp only [allNoL, Bool.and_eq_true] at h
    cases j with
    | zero => simp at hj; subst hj; exact h.1
    | succ j => exact allNoL_get l h.2 j v (by simpa using hj)

/-- cells of an aggregate, or the one cell of another value -/
theorem cells_rel {x : AV} {v : Value} (h : VRel M ρ hp x v) (hx : x.noL = true) : v.cells.size = x.cells.length ∧ One v.cells ∧ CellsIn M ρ hp x.cells v.cells := by
  by_cases ha : ∃ cs, x = .agg cs
  · obtain ⟨cs, rfl⟩ := ha
    cases h with
    | agg hs hone h => exact ⟨hs, hone, h⟩
  · have ho := h.one hx fun cs e => ha ⟨cs, e⟩
    have hc : v.cells = #[v] := by cases v <;> first | rfl | (simp [Value.oneCell'] at ho; done)
    have hx' : x.cells = [x] := by cases x <;> first | rfl | exact absurd ⟨_, rfl⟩ ha
    rw [hc, hx']
    refine ⟨rfl, fun j u hj => ?_, fun j y u hy hu => ?_⟩
    · cases j with
      | zero => simp at hj; subst hj; exact ho
      | succ j => simp at hj
    · cases j with
      | zero => simp at hy hu; subst hy; subst hu; exact h
      | succ j => simp at hy

/-- a part of told cells -/
theorem partOf_rel {P : Program} {t : Nat} {ti : TI} (ht : tiOf P t = some ti) {cs : List AV} {c : Array Value} {off : Nat} {x : AV}
    (hp' : partOf ti cs off = some x) (hlen : cs.length ≤ c.size) (hone : One c) (hc : CellsIn M ρ hp cs c) (w : World) : ∃ u, (part t c off).run P w = .ok u w ∧ VRel M ρ hp x u := by
  obtain ⟨i, z, d, hi, _, _, _, htd, hsz, _, hd, _⟩ := tiOf_some ht
  unfold partOf at hp'
  rw [htd] at hp'
  cases ha : agg? (tyOf P t) with
  | true =>
    rw [ha] at hp'
    simp only [cond_true] at hp'
    split at hp'
    · rename_i hle
      cases hp'
      refine ⟨_, run_part hi hd (by rw [if_pos ha]), ?_⟩
      rw [← hsz]
      refine .agg (by simp; omega) (fun j u hu => ?_) fun j y u hy hu => ?_
      · simp only [Array.getElem?_extract] at hu
        split at hu
        · exact hone _ _ hu
        · cases hu
      · simp only [Array.getElem?_extract] at hu
        rw [List.getElem?_take] at hy
        split at hy
        · rw [List.getElem?_drop] at hy
          split at hu
          · exact hc _ _ _ hy hu
          · cases hu
        · cases hy
    · cases hp'
  | false =>
    rw [ha] at hp'
    simp only [cond_false] at hp'
    have hlt : off < c.size := Nat.lt_of_lt_of_le (List.getElem?_eq_some_iff.1 hp').1 hlen
    refine ⟨c[off], run_part hi hd (by rw [ha]; simp [hlt]), hc off x _ hp' (by simp [hlt])⟩
end
end Go.Proofs.Ytjdciikfbinchaa.Abs
