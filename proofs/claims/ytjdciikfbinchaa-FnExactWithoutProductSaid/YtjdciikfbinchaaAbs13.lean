/- The abstract machine: what one operation does is so. -/
import Derived.Test.YtjdciikfbinchaaAbs12
namespace Go.Proofs.Ytjdciikfbinchaa.Abs
open Go

/-- what a call tells is so -/
def RecSound (P : Program) (rec : Rec) : Prop := ∀ (f : Nat) (vs : List AV) (hp : List Blk) (v : AV) (hp' : List Blk) (c : Nat), rec f vs hp = some (v, hp', c) → allNoL vs = true →
  (∃ fn, P.funcs[f]? = some fn ∧ fn.body.isSome = true ∧ (fn.name == "runtime.NumGoroutine") = false) ∧
  ∀ (M : Mem) (ρ : Rho) (β : Nat → Option Nat) (lo : List (Nat × List AV)) (w : World) (xs : Array Value), Real M ρ β hp lo w.heap → xs.size = vs.length → (∀ (j : Nat) x u, vs[j]? = some x → xs[j]? = some u → VRel M ρ hp x u) →
    Calls P f xs w fun e w' => ∃ u, e = .returned u ∧ ∃ M' ρ', SubM M M' ∧ Ext ρ hp ρ' hp' ∧ Real M' ρ' β hp' lo w'.heap ∧ VRel M' ρ' hp' v u ∧ Adv w w'

theorem val_some {x : Option AV} {e : Eff} (h : val x = some e) : ∃ v, x = some v ∧ e = { v := v } := by
  unfold val at h
  simp only [Option.map_eq_some_iff] at h
  obtain ⟨v, hv, rfl⟩ := h
  exact ⟨v, hv, rfl⟩

theorem run_callFunc {P : Program} {f : Nat} {fn : Func} {xs : Array Value} {w : World} (hf : P.funcs[f]? = some fn) (hb : fn.body.isSome = true) (hn : (fn.name == "runtime.NumGoroutine") = false) :
    (callFunc f xs).run P w = .ok (.enter f xs) w := by
  have hb' : fn.body.isNone = false := by cases h : fn.body <;> simp_all
  have hpr : Sem.run P program w = .ok P w := by simp
  simp only [callFunc, Sem.run_bind, hpr, Result.andThen_ok, hf, hn, hb', Bool.false_eq_true, if_false, Sem.run_pure]

section
variable {P : Program} {M : Mem} {ρ : Rho} {β : Nat → Option Nat} {w : World} {st : St} {a : Act} {o : Oper} {e : Eff}

theorem post_of {lo : List (Nat × List AV)} {hp : List Blk} {v : AV} {u : Value} (hR : Real M ρ β hp lo w.heap) (h : (execOp a.eval o).run P w = .ok (.value u) w) (hv : ERel M ρ β hp v u) :
    Outs P o a w (PostE M ρ β hp lo w o.dst { v := v }) := post_value hR h rfl rfl hv

theorem call_sound {rec : Rec} {f : Nat} {vs : List AV} {xs : Array Value} (hrec : RecSound P rec) (hR : Real M ρ β st.hp st.lo w.heap) (h : callA rec st.hp st.n0 f vs = some e) (hl : xs.size = vs.length)
    (hx : ∀ (j : Nat) x u, vs[j]? = some x → xs[j]? = some u → ERel M ρ β st.hp x u) (hgo : ∀ fn, P.funcs[f]? = some fn → fn.body.isSome = true → (fn.name == "runtime.NumGoroutine") = false → (execOp a.eval o).run P w = .ok (.enter f xs) w) :
    Outs P o a w (PostE M ρ β st.hp st.lo w o.dst e) := by
  unfold callA at h
  cases hL : allNoL vs with
  | false => rw [hL] at h; cases h
  | true =>
    rw [hL] at h
    simp only [cond_true, Option.map_eq_some_iff] at h
    obtain ⟨⟨v, hp', c⟩, hr, rfl⟩ := h
    obtain ⟨⟨fn, hf, hb, hn⟩, hcall⟩ := hrec _ _ _ _ _ _ hr hL
    refine .enter (hgo fn hf hb hn) ((hcall M ρ β st.lo w xs hR hl fun j x u h1 h2 => (hx j x u h1 h2).noL (allNoL_get vs hL j x h1)).mono fun e' w' ⟨u, he, M', ρ', hM, hE, hR', hv, hA⟩ => ⟨u, he, M', ρ', β, hM, hE, hR', .inr hv, hA, .inl rfl⟩)

theorem builtin_sound {b : Builtin} {c : Call} {vs : List AV} (hR : Real M ρ β st.hp st.lo w.heap) (ho : o.op = .call c) (hc : c.callee = .builtin b) (h : builtinA (tiOf P) st b c.argTypes.toList vs = some e)
    (hl : (c.args.map a.eval).size = vs.length) (hx : ∀ (j : Nat) x u, vs[j]? = some x → (c.args.map a.eval)[j]? = some u → ERel M ρ β st.hp x u) : Outs P o a w (PostE M ρ β st.hp st.lo w o.dst e) := by
  generalize hxs : c.args.map a.eval = xs at hl hx
  have hgo : ∀ r, (∀ cs, (builtin b c.argTypes o.type cs xs).run P w = r) → (execOp a.eval o).run P w = r := by
    intro r hr
    simp only [execOp, ho, resolve, hc, hxs, invoke, Sem.run_bind, Sem.run_pure, Result.andThen_ok, hr]
  have arr1 : ∀ {x : AV} {l : List AV}, vs = x :: l → ∃ u, xs[0]? = some u ∧ ERel M ρ β st.hp x u := by
    intro x l hv
    have : 0 < xs.size := by rw [hl, hv]; simp
    exact ⟨xs[0], by simp [this], hx 0 x _ (by rw [hv]; rfl) (by simp [this])⟩
  have lst : xs.toList.length = vs.length := by rw [Array.length_toList]; exact hl
  unfold builtinA at h
  split at h
  · -- len
    rename_i ty tl x vl hty
    obtain ⟨u, hu, hru⟩ := arr1 rfl
    obtain ⟨v, hv, rfl⟩ := val_some h
    obtain ⟨u', hrun, hr⟩ := len_rel (w := w) o.type hv hru (tys := c.argTypes) (vals := xs) (by rw [← Array.getElem?_toList, hty]; rfl) hu
    exact post_of hR (hgo _ fun cs => by simp [builtin, hrun]) (.inr hr)
  · -- cap
    rename_i ty tl vl hty
    obtain ⟨u, hu, hru⟩ := arr1 rfl
    simp only [Option.map_eq_some_iff] at h
    obtain ⟨⟨el, te⟩, he, rfl⟩ := h
    obtain ⟨hut, _⟩ := elemT_some he
    cases hru.v (fun _ _ e => by cases e)
    have g1 : c.argTypes[0]? = some ty := by rw [← Array.getElem?_toList, hty]; rfl
    exact post_of hR (hgo _ fun cs => by simp [builtin, Builtin.cap_, g1, hu, run_underlying hut, goInt]) (.inr (.int _ _))
  · -- append
    rename_i ty ty2 s x hty
    have hty' : c.argTypes = #[ty, ty2] := by rw [← Array.toList_inj, hty]
    obtain ⟨v, u, rfl⟩ : ∃ v u, xs = #[v, u] := by
      cases xs with
      | mk l =>
        simp at lst
        match l, lst with
        | [v, u], _ => exact ⟨v, u, rfl⟩
    have hv := hx 0 s v rfl rfl
    have hu := hx 1 x u rfl rfl
    have fin : ∀ {e' : Eff} {v' w'}, (Builtin.append_ #[ty, ty2] o.type #[v, u]).run P w = .ok v' w' → PostE M ρ β st.hp st.lo w o.dst e' v' w' → Outs P o a w (PostE M ρ β st.hp st.lo w o.dst e') := by
      intro e' v' w' h1 h2
      exact .value (hgo _ fun cs => by simp [builtin, hty', h1]) h2
    simp only [Option.bind_eq_some_iff] at h
    obtain ⟨⟨el, te⟩, he, h⟩ := h
    obtain ⟨hut, hte⟩ := elemT_some he
    obtain ⟨ie, ze, de, hie, hze, hzec, hzel, _, hse, hbe, _, _⟩ := tiOf_some hte
    simp only at h
    split at h
    · rename_i hcnd
      obtain ⟨hby, hpos⟩ := hcnd
      cases hint : isInt (tiOf P) ty2 with
      | true =>
        rw [hint] at h
        simp only [cond_true] at h
        split at h
        · rename_i n
          split at h
          · rename_i hn
            have hkt : ∃ k, P.underlying ty2 = some (.int k) := by
              unfold isInt at hint
              split at hint
              · rename_i t2 ht2
                obtain ⟨_, _, _, _, _, _, _, ht2d, _⟩ := tiOf_some ht2
                obtain ⟨hk, _⟩ := tyOf_eq (P := P) (t := ty2)
                split at hint
                · rename_i k hk'
                  rw [ht2d] at hk'
                  exact ⟨k, hk _ hk'⟩
                · cases hint
              · cases hint
            obtain ⟨k, hk⟩ := hkt
            obtain ⟨z1, z2, z3⟩ := zero_rel (M := M) (ρ := ρ) (hp := st.hp) hzec hzel
            cases hu.int_inv
            obtain ⟨v', w', h1, h2⟩ := append_rel (ty := o.type) (tx := ty2) (u := .int .i64 n) (news := (Builtin.zeroCells ze.cells n.toNat).toList) o.dst he hpos hR h hv (fun i z hi hz => by
              rw [hie] at hi
              cases hi
              rw [hze] at hz
              cases hz
              have := App.ofZeros (w := w) (ty := o.type) hut hk hie hze (by rw [← hbe]; exact hby) (by rw [← hse]; exact hpos) z1 z2 hn.1 hn.2
              simpa using this) (by
                have := News.zeros (M := M) (ρ := ρ) (hp := st.hp) (size := te.size) (n := n.toNat) (zero := te.zero) (by rw [hzel, hse]) (by rw [z1, hse]) z2 z3 hpos
                exact this)
            exact fin h1 h2
          · cases h
        · cases h
      | false =>
        rw [hint] at h
        simp only [cond_false] at h
        cases hsrc : isSrc (tiOf P) ty2 with
        | false => rw [hsrc] at h; cases h
        | true =>
          rw [hsrc] at h
          simp only [cond_true, Option.bind_eq_some_iff] at h
          obtain ⟨new, hnew, h⟩ := h
          obtain ⟨news, hS, hN⟩ := src_rel hR hsrc hu hnew
          obtain ⟨v', w', h1, h2⟩ := append_rel (ty := o.type) (tx := ty2) (u := u) (news := news) o.dst he hpos hR h hv (fun i z hi hz => by
            rw [hie] at hi
            cases hi
            rw [hze] at hz
            cases hz
            exact App.ofSrc hut hie hze (by rw [← hbe]; exact hby) (by rw [← hse]; exact hS)) hN
          exact fin h1 h2
    · cases h
  · -- clear
    rename_i ty x hty
    have hty' : c.argTypes = #[ty] := by rw [← Array.toList_inj, hty]
    obtain ⟨v, rfl⟩ : ∃ v, xs = #[v] := by
      cases xs with
      | mk l =>
        simp at lst
        match l, lst with
        | [v], _ => exact ⟨v, rfl⟩
    have hv := hx 0 x v rfl rfl
    simp only [Option.bind_eq_some_iff] at h
    obtain ⟨⟨el, te⟩, he, h⟩ := h
    obtain ⟨w', h1, h2⟩ := clear_rel o.dst o.type he hR h hv
    exact .value (hgo _ fun cs => by simp [builtin, hty', h1]) h2
  · -- max
    rename_i k n l
    obtain ⟨v, hv, rfl⟩ := val_some h
    cases hxl : xs.toList with
    | nil => rw [hxl] at lst; simp at lst
    | cons u us =>
      have hat : ∀ j : Nat, xs[j]? = (u :: us)[j]? := fun j => by rw [← hxl]; exact (Array.getElem?_toList ..).symm
      have h0 := (hx 0 _ u rfl (by rw [hat]; rfl)).int_inv
      subst h0
      obtain ⟨r, h1, h2⟩ := foldI_rel (P := P) (w := w) (g := Builtin.max2) (β := β) (M := M) (ρ := ρ) (hp := st.hp) (fun k a k' b => by simp [Builtin.max2]) l k n v us hv (by rw [hxl] at lst; simpa using lst) (fun j x u a b => hx (j + 1) x u (by simpa using a) (by rw [hat]; simpa using b))
      exact post_of hR (hgo _ fun cs => by simp [builtin, Builtin.max_, hxl, h1]) (.inr h2)
  · -- min
    rename_i k n l
    obtain ⟨v, hv, rfl⟩ := val_some h
    cases hxl : xs.toList with
    | nil => rw [hxl] at lst; simp at lst
    | cons u us =>
      have hat : ∀ j : Nat, xs[j]? = (u :: us)[j]? := fun j => by rw [← hxl]; exact (Array.getElem?_toList ..).symm
      have h0 := (hx 0 _ u rfl (by rw [hat]; rfl)).int_inv
      subst h0
      obtain ⟨r, h1, h2⟩ := foldI_rel (P := P) (w := w) (g := Builtin.min2) (β := β) (M := M) (ρ := ρ) (hp := st.hp) (fun k a k' b => by simp [Builtin.min2]) l k n v us hv (by rw [hxl] at lst; simpa using lst) (fun j x u a b => hx (j + 1) x u (by simpa using a) (by rw [hat]; simpa using b))
      exact post_of hR (hgo _ fun cs => by simp [builtin, Builtin.min_, hxl, h1]) (.inr h2)
  · cases h

end
end Go.Proofs.Ytjdciikfbinchaa.Abs
