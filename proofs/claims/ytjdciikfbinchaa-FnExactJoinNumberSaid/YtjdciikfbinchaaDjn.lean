/- Join numbers, told: from smaller sizes to greater ones. -/
import Derived.Test.YtjdciikfbinchaaFa
import Derived.Test.YtjdciikfbinchaaDg
namespace Go.Proofs.Ytjdciikfbinchaa.Fn
open Go Go.Proofs.Ytjdciikfbinchaa.Abs
set_option linter.unusedVariables false
set_option maxRecDepth 100000
/-- a run of a function that a table speaks of, at arguments of which the table says nothing -/
theorem fnKH_run' {P : Program} {c : KCfg} {n : Nat} {m : Rounds} {f : Nat} {vs : List AV} {hp0 : List KB} {v : AV} {new : List KB} (ho : (c.cfgs P).ora f vs (absH hp0) = none) (h : fnKH P c n m f vs hp0 done = some (v, new, true)) : ∃ cl, runF P (c.cfgs P) f vs (absH hp0) = some (v, absH new, cl) := by
  unfold fnKH at h
  split at h
  · rename_i fn hf
    split at h
    · rename_i b hb
      obtain ⟨h1, h⟩ := bif_k h
      obtain ⟨x, s, h2, h⟩ := codeK_s (evalK_s n) b _ _ _ h
      have h2' : runC P (c.cfgs P) ((c.cfgs P) f) b (enterA vs (absH hp0)) = some (x, s.abs) := by
        rw [← h2]
        unfold enterA KS.abs
        simp only [absH_len]
        rfl
      cases x with
      | normal =>
        obtain ⟨v', hp', cl', h3, h⟩ := finishK_s h
        cases h
        exact ⟨cl', by rw [runF_eq hf hb h1 ho, h2']; exact h3⟩
      | ret =>
        obtain ⟨v', hp', cl', h3, h⟩ := finishK_s h
        cases h
        exact ⟨cl', by rw [runF_eq hf hb h1 ho, h2']; exact h3⟩
      | exit i => cases h
    · cases h
  · cases h
theorem ent_run' {l : List Ent} (ht : ∀ e ∈ l, EntOk e) {n : Nat} {m : Rounds} {f : Nat} {vs : List AV} {v : AV} (hL : allNoL vs = true)
    (ho : ((kc (tabOf l)).cfgs Try.prog).ora f vs [] = none) (h : fnK Try.prog (kc (tabOf l)) n m f vs done = some (v, [], true)) (hc : clean v = true) :
    ∃ vs' v0 new0, vs'.length = vs.length ∧ (∀ (j : Nat) (x x' : AV), vs[j]? = some x → vs'[j]? = some x' → Weak x x') ∧ allNoL vs' = true ∧ Tells Try.prog f vs' v0 new0 ∧
  ((v = v0 ∧ absH [] = new0 ∧ clean v0 = true ∧ cleanB new0) ∨ (absH [] = [] ∧ FrzRel new0 v0 v)) :=
  ⟨vs, v, absH [], rfl, same_weak, hL, by
    obtain ⟨cl, hr⟩ := fnKH_run' ho h
    exact ⟨runF Try.prog ((kc (tabOf l)).cfgs Try.prog), cl, runF_ok mixed plain (tabOf_ok ht) (KMTOk.none _), hr⟩, .inl ⟨rfl, rfl, hc, cleanB_nil⟩⟩
/-- over what, how many, the join number -/
def divL : List ((Int × Int × Int) × (Int × Int × Int)) := [((1, 1, 1), (0, 0, 1)), ((1, 1, 2), (2, 1, 2)), ((1, 2, 1), (1, 1, 2)), ((2, 1, 1), (0, 1, 2)), ((1, 1, 3), (2, 1, 3)), ((1, 2, 2), (1, 1, 4)), ((1, 3, 1), (1, 1, 3)), ((2, 1, 2), (0, 1, 4)), ((2, 2, 1), (0, 1, 4)), ((3, 1, 1), (0, 1, 3)), ((1, 2, 3), (1, 1, 6)), ((1, 3, 2), (1, 1, 6)), ((2, 1, 3), (0, 1, 6)), ((2, 2, 2), (0, 0, 7)), ((2, 3, 1), (0, 1, 6)), ((3, 1, 2), (0, 1, 6)), ((3, 2, 1), (0, 1, 6)), ((1, 3, 3), (1, 1, 9)), ((2, 2, 3), (2, 1, 11)), ((2, 3, 2), (1, 1, 11)), ((3, 1, 3), (0, 1, 9)), ((3, 2, 2), (0, 1, 11)), ((3, 3, 1), (0, 1, 9)), ((2, 3, 3), (1, 1, 17)), ((3, 2, 3), (0, 1, 17)), ((3, 3, 2), (0, 1, 17)), ((3, 3, 3), (0, 1, 26))]
def divT (a b c : Int) : Option (Int × Int × Int) := (divL.find? fun e => decide (e.1.1 = a) && (decide (e.1.2.1 = b) && decide (e.1.2.2 = c))).map (·.2)
def jnV (a b c : Int) : Int := match divT a b c with
  | some y => y.2.2
  | none => 0
/-- what is told of sizes whose sum is less than s -/
def e_div (s : Int) : Ent := (56, fun vs => match vs with
  | [.agg [.int .i64 a, .int .i64 b, .int .i64 c]] => bif decide (a + b + c < s) then (divT a b c).map fun y => (true, .tup [I y.1, I y.2.1, I y.2.2], []) else none
  | _ => none)
def e_num (s : Int) : Ent := (54, fun vs => match vs with
  | [.agg [.int .i64 a, .int .i64 b, .int .i64 c]] => bif decide (a + b + c < s) then (divT a b c).map fun y => (true, I y.2.2, []) else none
  | _ => none)
theorem divT_cases {a b c : Int} {y : Int × Int × Int} (h : divT a b c = some y) : (a = 1 ∧ b = 1 ∧ c = 1 ∧ y = (0, 0, 1)) ∨ (a = 1 ∧ b = 1 ∧ c = 2 ∧ y = (2, 1, 2)) ∨ (a = 1 ∧ b = 2 ∧ c = 1 ∧ y = (1, 1, 2)) ∨ (a = 2 ∧ b = 1 ∧ c = 1 ∧ y = (0, 1, 2)) ∨ (a = 1 ∧ b = 1 ∧ c = 3 ∧ y = (2, 1, 3)) ∨ (a = 1 ∧ b = 2 ∧ c = 2 ∧ y = (1, 1, 4)) ∨ (a = 1 ∧ b = 3 ∧ c = 1 ∧ y = (1, 1, 3)) ∨ (a = 2 ∧ b = 1 ∧ c = 2 ∧ y = (0, 1, 4)) ∨ (a = 2 ∧ b = 2 ∧ c = 1 ∧ y = (0, 1, 4)) ∨ (a = 3 ∧ b = 1 ∧ c = 1 ∧ y = (0, 1, 3)) ∨ (a = 1 ∧ b = 2 ∧ c = 3 ∧ y = (1, 1, 6)) ∨ (a = 1 ∧ b = 3 ∧ c = 2 ∧ y = (1, 1, 6)) ∨ (a = 2 ∧ b = 1 ∧ c = 3 ∧ y = (0, 1, 6)) ∨ (a = 2 ∧ b = 2 ∧ c = 2 ∧ y = (0, 0, 7)) ∨ (a = 2 ∧ b = 3 ∧ c = 1 ∧ y = (0, 1, 6)) ∨ (a = 3 ∧ b = 1 ∧ c = 2 ∧ y = (0, 1, 6)) ∨ (a = 3 ∧ b = 2 ∧ c = 1 ∧ y = (0, 1, 6)) ∨ (a = 1 ∧ b = 3 ∧ c = 3 ∧ y = (1, 1, 9)) ∨ (a = 2 ∧ b = 2 ∧ c = 3 ∧ y = (2, 1, 11)) ∨ (a = 2 ∧ b = 3 ∧ c = 2 ∧ y = (1, 1, 11)) ∨ (a = 3 ∧ b = 1 ∧ c = 3 ∧ y = (0, 1, 9)) ∨ (a = 3 ∧ b = 2 ∧ c = 2 ∧ y = (0, 1, 11)) ∨ (a = 3 ∧ b = 3 ∧ c = 1 ∧ y = (0, 1, 9)) ∨ (a = 2 ∧ b = 3 ∧ c = 3 ∧ y = (1, 1, 17)) ∨ (a = 3 ∧ b = 2 ∧ c = 3 ∧ y = (0, 1, 17)) ∨ (a = 3 ∧ b = 3 ∧ c = 2 ∧ y = (0, 1, 17)) ∨ (a = 3 ∧ b = 3 ∧ c = 3 ∧ y = (0, 1, 26)) := by
  unfold divT at h
  simp only [Option.map_eq_some_iff] at h
  obtain ⟨e, h1, rfl⟩ := h
  have hm := List.mem_of_find?_eq_some h1
  have hp := List.find?_some h1
  simp only [Bool.and_eq_true, decide_eq_true_eq] at hp
  obtain ⟨rfl, rfl, rfl⟩ := hp
  simp only [divL, List.mem_cons, List.not_mem_nil, or_false] at hm
  rcases hm with rfl | rfl | rfl | rfl | rfl | rfl | rfl | rfl | rfl | rfl | rfl | rfl | rfl | rfl | rfl | rfl | rfl | rfl | rfl | rfl | rfl | rfl | rfl | rfl | rfl | rfl | rfl <;> simp
theorem div_111 : fnK Try.prog (kc (tabOf [e_div 3])) 40 (rnd [] 40 10) 56 [.agg [I 1, I 1, I 1]] done = some (.tup [I 0, I 0, I 1], [], true) := by kernel_rfl
theorem div_112 : fnK Try.prog (kc (tabOf [e_div 4])) 40 (rnd [] 40 10) 56 [.agg [I 1, I 1, I 2]] done = some (.tup [I 2, I 1, I 2], [], true) := by kernel_rfl
theorem div_121 : fnK Try.prog (kc (tabOf [e_div 4])) 40 (rnd [] 40 10) 56 [.agg [I 1, I 2, I 1]] done = some (.tup [I 1, I 1, I 2], [], true) := by kernel_rfl
theorem div_211 : fnK Try.prog (kc (tabOf [e_div 4])) 40 (rnd [] 40 10) 56 [.agg [I 2, I 1, I 1]] done = some (.tup [I 0, I 1, I 2], [], true) := by kernel_rfl
theorem div_113 : fnK Try.prog (kc (tabOf [e_div 5])) 40 (rnd [] 40 10) 56 [.agg [I 1, I 1, I 3]] done = some (.tup [I 2, I 1, I 3], [], true) := by kernel_rfl
theorem div_122 : fnK Try.prog (kc (tabOf [e_div 5])) 40 (rnd [] 40 10) 56 [.agg [I 1, I 2, I 2]] done = some (.tup [I 1, I 1, I 4], [], true) := by kernel_rfl
theorem div_131 : fnK Try.prog (kc (tabOf [e_div 5])) 40 (rnd [] 40 10) 56 [.agg [I 1, I 3, I 1]] done = some (.tup [I 1, I 1, I 3], [], true) := by kernel_rfl
theorem div_212 : fnK Try.prog (kc (tabOf [e_div 5])) 40 (rnd [] 40 10) 56 [.agg [I 2, I 1, I 2]] done = some (.tup [I 0, I 1, I 4], [], true) := by kernel_rfl
theorem div_221 : fnK Try.prog (kc (tabOf [e_div 5])) 40 (rnd [] 40 10) 56 [.agg [I 2, I 2, I 1]] done = some (.tup [I 0, I 1, I 4], [], true) := by kernel_rfl
theorem div_311 : fnK Try.prog (kc (tabOf [e_div 5])) 40 (rnd [] 40 10) 56 [.agg [I 3, I 1, I 1]] done = some (.tup [I 0, I 1, I 3], [], true) := by kernel_rfl
theorem div_123 : fnK Try.prog (kc (tabOf [e_div 6])) 40 (rnd [] 40 10) 56 [.agg [I 1, I 2, I 3]] done = some (.tup [I 1, I 1, I 6], [], true) := by kernel_rfl
theorem div_132 : fnK Try.prog (kc (tabOf [e_div 6])) 40 (rnd [] 40 10) 56 [.agg [I 1, I 3, I 2]] done = some (.tup [I 1, I 1, I 6], [], true) := by kernel_rfl
theorem div_213 : fnK Try.prog (kc (tabOf [e_div 6])) 40 (rnd [] 40 10) 56 [.agg [I 2, I 1, I 3]] done = some (.tup [I 0, I 1, I 6], [], true) := by kernel_rfl
theorem div_222 : fnK Try.prog (kc (tabOf [e_div 6])) 40 (rnd [] 40 10) 56 [.agg [I 2, I 2, I 2]] done = some (.tup [I 0, I 0, I 7], [], true) := by kernel_rfl
theorem div_231 : fnK Try.prog (kc (tabOf [e_div 6])) 40 (rnd [] 40 10) 56 [.agg [I 2, I 3, I 1]] done = some (.tup [I 0, I 1, I 6], [], true) := by kernel_rfl
theorem div_312 : fnK Try.prog (kc (tabOf [e_div 6])) 40 (rnd [] 40 10) 56 [.agg [I 3, I 1, I 2]] done = some (.tup [I 0, I 1, I 6], [], true) := by kernel_rfl
theorem div_321 : fnK Try.prog (kc (tabOf [e_div 6])) 40 (rnd [] 40 10) 56 [.agg [I 3, I 2, I 1]] done = some (.tup [I 0, I 1, I 6], [], true) := by kernel_rfl
theorem div_133 : fnK Try.prog (kc (tabOf [e_div 7])) 40 (rnd [] 40 10) 56 [.agg [I 1, I 3, I 3]] done = some (.tup [I 1, I 1, I 9], [], true) := by kernel_rfl
theorem div_223 : fnK Try.prog (kc (tabOf [e_div 7])) 40 (rnd [] 40 10) 56 [.agg [I 2, I 2, I 3]] done = some (.tup [I 2, I 1, I 11], [], true) := by kernel_rfl
theorem div_232 : fnK Try.prog (kc (tabOf [e_div 7])) 40 (rnd [] 40 10) 56 [.agg [I 2, I 3, I 2]] done = some (.tup [I 1, I 1, I 11], [], true) := by kernel_rfl
theorem div_313 : fnK Try.prog (kc (tabOf [e_div 7])) 40 (rnd [] 40 10) 56 [.agg [I 3, I 1, I 3]] done = some (.tup [I 0, I 1, I 9], [], true) := by kernel_rfl
theorem div_322 : fnK Try.prog (kc (tabOf [e_div 7])) 40 (rnd [] 40 10) 56 [.agg [I 3, I 2, I 2]] done = some (.tup [I 0, I 1, I 11], [], true) := by kernel_rfl
theorem div_331 : fnK Try.prog (kc (tabOf [e_div 7])) 40 (rnd [] 40 10) 56 [.agg [I 3, I 3, I 1]] done = some (.tup [I 0, I 1, I 9], [], true) := by kernel_rfl
theorem div_233 : fnK Try.prog (kc (tabOf [e_div 8])) 40 (rnd [] 40 10) 56 [.agg [I 2, I 3, I 3]] done = some (.tup [I 1, I 1, I 17], [], true) := by kernel_rfl
theorem div_323 : fnK Try.prog (kc (tabOf [e_div 8])) 40 (rnd [] 40 10) 56 [.agg [I 3, I 2, I 3]] done = some (.tup [I 0, I 1, I 17], [], true) := by kernel_rfl
theorem div_332 : fnK Try.prog (kc (tabOf [e_div 8])) 40 (rnd [] 40 10) 56 [.agg [I 3, I 3, I 2]] done = some (.tup [I 0, I 1, I 17], [], true) := by kernel_rfl
theorem div_333 : fnK Try.prog (kc (tabOf [e_div 9])) 40 (rnd [] 40 10) 56 [.agg [I 3, I 3, I 3]] done = some (.tup [I 0, I 1, I 26], [], true) := by kernel_rfl
theorem div_ok3 : EntOk (e_div 3) := by
  intro vs v new hv
  unfold e_div at hv
  simp only at hv
  split at hv
  · rename_i a b c
    by_cases hs : a + b + c < 3
    · simp only [hs, decide_true, cond_true, Option.map_eq_some_iff] at hv
      obtain ⟨y, hy, _⟩ := hv
      rcases divT_cases hy with ⟨rfl, rfl, rfl, _⟩ | ⟨rfl, rfl, rfl, _⟩ | ⟨rfl, rfl, rfl, _⟩ | ⟨rfl, rfl, rfl, _⟩ | ⟨rfl, rfl, rfl, _⟩ | ⟨rfl, rfl, rfl, _⟩ | ⟨rfl, rfl, rfl, _⟩ | ⟨rfl, rfl, rfl, _⟩ | ⟨rfl, rfl, rfl, _⟩ | ⟨rfl, rfl, rfl, _⟩ | ⟨rfl, rfl, rfl, _⟩ | ⟨rfl, rfl, rfl, _⟩ | ⟨rfl, rfl, rfl, _⟩ | ⟨rfl, rfl, rfl, _⟩ | ⟨rfl, rfl, rfl, _⟩ | ⟨rfl, rfl, rfl, _⟩ | ⟨rfl, rfl, rfl, _⟩ | ⟨rfl, rfl, rfl, _⟩ | ⟨rfl, rfl, rfl, _⟩ | ⟨rfl, rfl, rfl, _⟩ | ⟨rfl, rfl, rfl, _⟩ | ⟨rfl, rfl, rfl, _⟩ | ⟨rfl, rfl, rfl, _⟩ | ⟨rfl, rfl, rfl, _⟩ | ⟨rfl, rfl, rfl, _⟩ | ⟨rfl, rfl, rfl, _⟩ | ⟨rfl, rfl, rfl, _⟩ <;> omega
    · simp [hs] at hv
  · cases hv
theorem div_ok4 : EntOk (e_div 4) := by
  intro vs v new hv
  have hv0 := hv
  unfold e_div at hv
  simp only at hv
  split at hv
  · rename_i a b c
    by_cases hs : a + b + c < 4
    · simp only [hs, decide_true, cond_true, Option.map_eq_some_iff] at hv
      obtain ⟨y, hy, he⟩ := hv
      by_cases hl : a + b + c < 3
      · exact div_ok3 _ v new (by unfold e_div; simp only [hl, decide_true, cond_true, hy, Option.map_some]; rw [← he])
      · simp only [Prod.mk.injEq, true_and] at he
        obtain ⟨rfl, rfl⟩ := he
        rcases divT_cases hy with ⟨rfl, rfl, rfl, rfl⟩ | ⟨rfl, rfl, rfl, rfl⟩ | ⟨rfl, rfl, rfl, rfl⟩ | ⟨rfl, rfl, rfl, rfl⟩ | ⟨rfl, rfl, rfl, rfl⟩ | ⟨rfl, rfl, rfl, rfl⟩ | ⟨rfl, rfl, rfl, rfl⟩ | ⟨rfl, rfl, rfl, rfl⟩ | ⟨rfl, rfl, rfl, rfl⟩ | ⟨rfl, rfl, rfl, rfl⟩ | ⟨rfl, rfl, rfl, rfl⟩ | ⟨rfl, rfl, rfl, rfl⟩ | ⟨rfl, rfl, rfl, rfl⟩ | ⟨rfl, rfl, rfl, rfl⟩ | ⟨rfl, rfl, rfl, rfl⟩ | ⟨rfl, rfl, rfl, rfl⟩ | ⟨rfl, rfl, rfl, rfl⟩ | ⟨rfl, rfl, rfl, rfl⟩ | ⟨rfl, rfl, rfl, rfl⟩ | ⟨rfl, rfl, rfl, rfl⟩ | ⟨rfl, rfl, rfl, rfl⟩ | ⟨rfl, rfl, rfl, rfl⟩ | ⟨rfl, rfl, rfl, rfl⟩ | ⟨rfl, rfl, rfl, rfl⟩ | ⟨rfl, rfl, rfl, rfl⟩ | ⟨rfl, rfl, rfl, rfl⟩ | ⟨rfl, rfl, rfl, rfl⟩
        · exact ent_run' (l := [e_div 3]) (by simp [div_ok3]) rfl rfl div_111 rfl
        · omega
        · omega
        · omega
        · omega
        · omega
        · omega
        · omega
        · omega
        · omega
        · omega
        · omega
        · omega
        · omega
        · omega
        · omega
        · omega
        · omega
        · omega
        · omega
        · omega
        · omega
        · omega
        · omega
        · omega
        · omega
        · omega
    · simp [hs] at hv
  · cases hv
theorem div_ok5 : EntOk (e_div 5) := by
  intro vs v new hv
  have hv0 := hv
  unfold e_div at hv
  simp only at hv
  split at hv
  · rename_i a b c
    by_cases hs : a + b + c < 5
    · simp only [hs, decide_true, cond_true, Option.map_eq_some_iff] at hv
      obtain ⟨y, hy, he⟩ := hv
      by_cases hl : a + b + c < 4
      · exact div_ok4 _ v new (by unfold e_div; simp only [hl, decide_true, cond_true, hy, Option.map_some]; rw [← he])
      · simp only [Prod.mk.injEq, true_and] at he
        obtain ⟨rfl, rfl⟩ := he
        rcases divT_cases hy with ⟨rfl, rfl, rfl, rfl⟩ | ⟨rfl, rfl, rfl, rfl⟩ | ⟨rfl, rfl, rfl, rfl⟩ | ⟨rfl, rfl, rfl, rfl⟩ | ⟨rfl, rfl, rfl, rfl⟩ | ⟨rfl, rfl, rfl, rfl⟩ | ⟨rfl, rfl, rfl, rfl⟩ | ⟨rfl, rfl, rfl, rfl⟩ | ⟨rfl, rfl, rfl, rfl⟩ | ⟨rfl, rfl, rfl, rfl⟩ | ⟨rfl, rfl, rfl, rfl⟩ | ⟨rfl, rfl, rfl, rfl⟩ | ⟨rfl, rfl, rfl, rfl⟩ | ⟨rfl, rfl, rfl, rfl⟩ | ⟨rfl, rfl, rfl, rfl⟩ | ⟨rfl, rfl, rfl, rfl⟩ | ⟨rfl, rfl, rfl, rfl⟩ | ⟨rfl, rfl, rfl, rfl⟩ | ⟨rfl, rfl, rfl, rfl⟩ | ⟨rfl, rfl, rfl, rfl⟩ | ⟨rfl, rfl, rfl, rfl⟩ | ⟨rfl, rfl, rfl, rfl⟩ | ⟨rfl, rfl, rfl, rfl⟩ | ⟨rfl, rfl, rfl, rfl⟩ | ⟨rfl, rfl, rfl, rfl⟩ | ⟨rfl, rfl, rfl, rfl⟩ | ⟨rfl, rfl, rfl, rfl⟩
        · omega
        · exact ent_run' (l := [e_div 4]) (by simp [div_ok4]) rfl rfl div_112 rfl
        · exact ent_run' (l := [e_div 4]) (by simp [div_ok4]) rfl rfl div_121 rfl
        · exact ent_run' (l := [e_div 4]) (by simp [div_ok4]) rfl rfl div_211 rfl
        · omega
        · omega
        · omega
        · omega
        · omega
        · omega
        · omega
        · omega
        · omega
        · omega
        · omega
        · omega
        · omega
        · omega
        · omega
        · omega
        · omega
        · omega
        · omega
        · omega
        · omega
        · omega
        · omega
    · simp [hs] at hv
  · cases hv
theorem div_ok6 : EntOk (e_div 6) := by
  intro vs v new hv
  have hv0 := hv
  unfold e_div at hv
  simp only at hv
  split at hv
  · rename_i a b c
    by_cases hs : a + b + c < 6
    · simp only [hs, decide_true, cond_true, Option.map_eq_some_iff] at hv
      obtain ⟨y, hy, he⟩ := hv
      by_cases hl : a + b + c < 5
      · exact div_ok5 _ v new (by unfold e_div; simp only [hl, decide_true, cond_true, hy, Option.map_some]; rw [← he])
      · simp only [Prod.mk.injEq, true_and] at he
        obtain ⟨rfl, rfl⟩ := he
        rcases divT_cases hy with ⟨rfl, rfl, rfl, rfl⟩ | ⟨rfl, rfl, rfl, rfl⟩ | ⟨rfl, rfl, rfl, rfl⟩ | ⟨rfl, rfl, rfl, rfl⟩ | ⟨rfl, rfl, rfl, rfl⟩ | ⟨rfl, rfl, rfl, rfl⟩ | ⟨rfl, rfl, rfl, rfl⟩ | ⟨rfl, rfl, rfl, rfl⟩ | ⟨rfl, rfl, rfl, rfl⟩ | ⟨rfl, rfl, rfl, rfl⟩ | ⟨rfl, rfl, rfl, rfl⟩ | ⟨rfl, rfl, rfl, rfl⟩ | ⟨rfl, rfl, rfl, rfl⟩ | ⟨rfl, rfl, rfl, rfl⟩ | ⟨rfl, rfl, rfl, rfl⟩ | ⟨rfl, rfl, rfl, rfl⟩ | ⟨rfl, rfl, rfl, rfl⟩ | ⟨rfl, rfl, rfl, rfl⟩ | ⟨rfl, rfl, rfl, rfl⟩ | ⟨rfl, rfl, rfl, rfl⟩ | ⟨rfl, rfl, rfl, rfl⟩ | ⟨rfl, rfl, rfl, rfl⟩ | ⟨rfl, rfl, rfl, rfl⟩ | ⟨rfl, rfl, rfl, rfl⟩ | ⟨rfl, rfl, rfl, rfl⟩ | ⟨rfl, rfl, rfl, rfl⟩ | ⟨rfl, rfl, rfl, rfl⟩
        · omega
        · omega
        · omega
        · omega
        · exact ent_run' (l := [e_div 5]) (by simp [div_ok5]) rfl rfl div_113 rfl
        · exact ent_run' (l := [e_div 5]) (by simp [div_ok5]) rfl rfl div_122 rfl
        · exact ent_run' (l := [e_div 5]) (by simp [div_ok5]) rfl rfl div_131 rfl
        · exact ent_run' (l := [e_div 5]) (by simp [div_ok5]) rfl rfl div_212 rfl
        · exact ent_run' (l := [e_div 5]) (by simp [div_ok5]) rfl rfl div_221 rfl
        · exact ent_run' (l := [e_div 5]) (by simp [div_ok5]) rfl rfl div_311 rfl
        · omega
        · omega
        · omega
        · omega
        · omega
        · omega
        · omega
        · omega
        · omega
        · omega
        · omega
        · omega
        · omega
        · omega
        · omega
        · omega
        · omega
    · simp [hs] at hv
  · cases hv
theorem div_ok7 : EntOk (e_div 7) := by
  intro vs v new hv
  have hv0 := hv
  unfold e_div at hv
  simp only at hv
  split at hv
  · rename_i a b c
    by_cases hs : a + b + c < 7
    · simp only [hs, decide_true, cond_true, Option.map_eq_some_iff] at hv
      obtain ⟨y, hy, he⟩ := hv
      by_cases hl : a + b + c < 6
      · exact div_ok6 _ v new (by unfold e_div; simp only [hl, decide_true, cond_true, hy, Option.map_some]; rw [← he])
      · simp only [Prod.mk.injEq, true_and] at he
        obtain ⟨rfl, rfl⟩ := he
        rcases divT_cases hy with ⟨rfl, rfl, rfl, rfl⟩ | ⟨rfl, rfl, rfl, rfl⟩ | ⟨rfl, rfl, rfl, rfl⟩ | ⟨rfl, rfl, rfl, rfl⟩ | ⟨rfl, rfl, rfl, rfl⟩ | ⟨rfl, rfl, rfl, rfl⟩ | ⟨rfl, rfl, rfl, rfl⟩ | ⟨rfl, rfl, rfl, rfl⟩ | ⟨rfl, rfl, rfl, rfl⟩ | ⟨rfl, rfl, rfl, rfl⟩ | ⟨rfl, rfl, rfl, rfl⟩ | ⟨rfl, rfl, rfl, rfl⟩ | ⟨rfl, rfl, rfl, rfl⟩ | ⟨rfl, rfl, rfl, rfl⟩ | ⟨rfl, rfl, rfl, rfl⟩ | ⟨rfl, rfl, rfl, rfl⟩ | ⟨rfl, rfl, rfl, rfl⟩ | ⟨rfl, rfl, rfl, rfl⟩ | ⟨rfl, rfl, rfl, rfl⟩ | ⟨rfl, rfl, rfl, rfl⟩ | ⟨rfl, rfl, rfl, rfl⟩ | ⟨rfl, rfl, rfl, rfl⟩ | ⟨rfl, rfl, rfl, rfl⟩ | ⟨rfl, rfl, rfl, rfl⟩ | ⟨rfl, rfl, rfl, rfl⟩ | ⟨rfl, rfl, rfl, rfl⟩ | ⟨rfl, rfl, rfl, rfl⟩
        · omega
        · omega
        · omega
        · omega
        · omega
        · omega
        · omega
        · omega
        · omega
        · omega
        · exact ent_run' (l := [e_div 6]) (by simp [div_ok6]) rfl rfl div_123 rfl
        · exact ent_run' (l := [e_div 6]) (by simp [div_ok6]) rfl rfl div_132 rfl
        · exact ent_run' (l := [e_div 6]) (by simp [div_ok6]) rfl rfl div_213 rfl
        · exact ent_run' (l := [e_div 6]) (by simp [div_ok6]) rfl rfl div_222 rfl
        · exact ent_run' (l := [e_div 6]) (by simp [div_ok6]) rfl rfl div_231 rfl
        · exact ent_run' (l := [e_div 6]) (by simp [div_ok6]) rfl rfl div_312 rfl
        · exact ent_run' (l := [e_div 6]) (by simp [div_ok6]) rfl rfl div_321 rfl
        · omega
        · omega
        · omega
        · omega
        · omega
        · omega
        · omega
        · omega
        · omega
        · omega
    · simp [hs] at hv
  · cases hv
theorem div_ok8 : EntOk (e_div 8) := by
  intro vs v new hv
  have hv0 := hv
  unfold e_div at hv
  simp only at hv
  split at hv
  · rename_i a b c
    by_cases hs : a + b + c < 8
    · simp only [hs, decide_true, cond_true, Option.map_eq_some_iff] at hv
      obtain ⟨y, hy, he⟩ := hv
      by_cases hl : a + b + c < 7
      · exact div_ok7 _ v new (by unfold e_div; simp only [hl, decide_true, cond_true, hy, Option.map_some]; rw [← he])
      · simp only [Prod.mk.injEq, true_and] at he
        obtain ⟨rfl, rfl⟩ := he
        rcases divT_cases hy with ⟨rfl, rfl, rfl, rfl⟩ | ⟨rfl, rfl, rfl, rfl⟩ | ⟨rfl, rfl, rfl, rfl⟩ | ⟨rfl, rfl, rfl, rfl⟩ | ⟨rfl, rfl, rfl, rfl⟩ | ⟨rfl, rfl, rfl, rfl⟩ | ⟨rfl, rfl, rfl, rfl⟩ | ⟨rfl, rfl, rfl, rfl⟩ | ⟨rfl, rfl, rfl, rfl⟩ | ⟨rfl, rfl, rfl, rfl⟩ | ⟨rfl, rfl, rfl, rfl⟩ | ⟨rfl, rfl, rfl, rfl⟩ | ⟨rfl, rfl, rfl, rfl⟩ | ⟨rfl, rfl, rfl, rfl⟩ | ⟨rfl, rfl, rfl, rfl⟩ | ⟨rfl, rfl, rfl, rfl⟩ | ⟨rfl, rfl, rfl, rfl⟩ | ⟨rfl, rfl, rfl, rfl⟩ | ⟨rfl, rfl, rfl, rfl⟩ | ⟨rfl, rfl, rfl, rfl⟩ | ⟨rfl, rfl, rfl, rfl⟩ | ⟨rfl, rfl, rfl, rfl⟩ | ⟨rfl, rfl, rfl, rfl⟩ | ⟨rfl, rfl, rfl, rfl⟩ | ⟨rfl, rfl, rfl, rfl⟩ | ⟨rfl, rfl, rfl, rfl⟩ | ⟨rfl, rfl, rfl, rfl⟩
        · omega
        · omega
        · omega
        · omega
        · omega
        · omega
        · omega
        · omega
        · omega
        · omega
        · omega
        · omega
        · omega
        · omega
        · omega
        · omega
        · omega
        · exact ent_run' (l := [e_div 7]) (by simp [div_ok7]) rfl rfl div_133 rfl
        · exact ent_run' (l := [e_div 7]) (by simp [div_ok7]) rfl rfl div_223 rfl
        · exact ent_run' (l := [e_div 7]) (by simp [div_ok7]) rfl rfl div_232 rfl
        · exact ent_run' (l := [e_div 7]) (by simp [div_ok7]) rfl rfl div_313 rfl
        · exact ent_run' (l := [e_div 7]) (by simp [div_ok7]) rfl rfl div_322 rfl
        · exact ent_run' (l := [e_div 7]) (by simp [div_ok7]) rfl rfl div_331 rfl
        · omega
        · omega
        · omega
        · omega
    · simp [hs] at hv
  · cases hv
theorem div_ok9 : EntOk (e_div 9) := by
  intro vs v new hv
  have hv0 := hv
  unfold e_div at hv
  simp only at hv
  split at hv
  · rename_i a b c
    by_cases hs : a + b + c < 9
    · simp only [hs, decide_true, cond_true, Option.map_eq_some_iff] at hv
      obtain ⟨y, hy, he⟩ := hv
      by_cases hl : a + b + c < 8
      · exact div_ok8 _ v new (by unfold e_div; simp only [hl, decide_true, cond_true, hy, Option.map_some]; rw [← he])
      · simp only [Prod.mk.injEq, true_and] at he
        obtain ⟨rfl, rfl⟩ := he
        rcases divT_cases hy with ⟨rfl, rfl, rfl, rfl⟩ | ⟨rfl, rfl, rfl, rfl⟩ | ⟨rfl, rfl, rfl, rfl⟩ | ⟨rfl, rfl, rfl, rfl⟩ | ⟨rfl, rfl, rfl, rfl⟩ | ⟨rfl, rfl, rfl, rfl⟩ | ⟨rfl, rfl, rfl, rfl⟩ | ⟨rfl, rfl, rfl, rfl⟩ | ⟨rfl, rfl, rfl, rfl⟩ | ⟨rfl, rfl, rfl, rfl⟩ | ⟨rfl, rfl, rfl, rfl⟩ | ⟨rfl, rfl, rfl, rfl⟩ | ⟨rfl, rfl, rfl, rfl⟩ | ⟨rfl, rfl, rfl, rfl⟩ | ⟨rfl, rfl, rfl, rfl⟩ | ⟨rfl, rfl, rfl, rfl⟩ | ⟨rfl, rfl, rfl, rfl⟩ | ⟨rfl, rfl, rfl, rfl⟩ | ⟨rfl, rfl, rfl, rfl⟩ | ⟨rfl, rfl, rfl, rfl⟩ | ⟨rfl, rfl, rfl, rfl⟩ | ⟨rfl, rfl, rfl, rfl⟩ | ⟨rfl, rfl, rfl, rfl⟩ | ⟨rfl, rfl, rfl, rfl⟩ | ⟨rfl, rfl, rfl, rfl⟩ | ⟨rfl, rfl, rfl, rfl⟩ | ⟨rfl, rfl, rfl, rfl⟩
        · omega
        · omega
        · omega
        · omega
        · omega
        · omega
        · omega
        · omega
        · omega
        · omega
        · omega
        · omega
        · omega
        · omega
        · omega
        · omega
        · omega
        · omega
        · omega
        · omega
        · omega
        · omega
        · omega
        · exact ent_run' (l := [e_div 8]) (by simp [div_ok8]) rfl rfl div_233 rfl
        · exact ent_run' (l := [e_div 8]) (by simp [div_ok8]) rfl rfl div_323 rfl
        · exact ent_run' (l := [e_div 8]) (by simp [div_ok8]) rfl rfl div_332 rfl
        · omega
    · simp [hs] at hv
  · cases hv
theorem div_ok10 : EntOk (e_div 10) := by
  intro vs v new hv
  have hv0 := hv
  unfold e_div at hv
  simp only at hv
  split at hv
  · rename_i a b c
    by_cases hs : a + b + c < 10
    · simp only [hs, decide_true, cond_true, Option.map_eq_some_iff] at hv
      obtain ⟨y, hy, he⟩ := hv
      by_cases hl : a + b + c < 9
      · exact div_ok9 _ v new (by unfold e_div; simp only [hl, decide_true, cond_true, hy, Option.map_some]; rw [← he])
      · simp only [Prod.mk.injEq, true_and] at he
        obtain ⟨rfl, rfl⟩ := he
        rcases divT_cases hy with ⟨rfl, rfl, rfl, rfl⟩ | ⟨rfl, rfl, rfl, rfl⟩ | ⟨rfl, rfl, rfl, rfl⟩ | ⟨rfl, rfl, rfl, rfl⟩ | ⟨rfl, rfl, rfl, rfl⟩ | ⟨rfl, rfl, rfl, rfl⟩ | ⟨rfl, rfl, rfl, rfl⟩ | ⟨rfl, rfl, rfl, rfl⟩ | ⟨rfl, rfl, rfl, rfl⟩ | ⟨rfl, rfl, rfl, rfl⟩ | ⟨rfl, rfl, rfl, rfl⟩ | ⟨rfl, rfl, rfl, rfl⟩ | ⟨rfl, rfl, rfl, rfl⟩ | ⟨rfl, rfl, rfl, rfl⟩ | ⟨rfl, rfl, rfl, rfl⟩ | ⟨rfl, rfl, rfl, rfl⟩ | ⟨rfl, rfl, rfl, rfl⟩ | ⟨rfl, rfl, rfl, rfl⟩ | ⟨rfl, rfl, rfl, rfl⟩ | ⟨rfl, rfl, rfl, rfl⟩ | ⟨rfl, rfl, rfl, rfl⟩ | ⟨rfl, rfl, rfl, rfl⟩ | ⟨rfl, rfl, rfl, rfl⟩ | ⟨rfl, rfl, rfl, rfl⟩ | ⟨rfl, rfl, rfl, rfl⟩ | ⟨rfl, rfl, rfl, rfl⟩ | ⟨rfl, rfl, rfl, rfl⟩
        · omega
        · omega
        · omega
        · omega
        · omega
        · omega
        · omega
        · omega
        · omega
        · omega
        · omega
        · omega
        · omega
        · omega
        · omega
        · omega
        · omega
        · omega
        · omega
        · omega
        · omega
        · omega
        · omega
        · omega
        · omega
        · omega
        · exact ent_run' (l := [e_div 9]) (by simp [div_ok9]) rfl rfl div_333 rfl
    · simp [hs] at hv
  · cases hv
theorem num_111 : fnK Try.prog (kc (tabOf [e_num 3])) 40 (rnd [] 40 10) 54 [.agg [I 1, I 1, I 1]] done = some (I 1, [], true) := by kernel_rfl
theorem num_112 : fnK Try.prog (kc (tabOf [e_num 4])) 40 (rnd [] 40 10) 54 [.agg [I 1, I 1, I 2]] done = some (I 2, [], true) := by kernel_rfl
theorem num_121 : fnK Try.prog (kc (tabOf [e_num 4])) 40 (rnd [] 40 10) 54 [.agg [I 1, I 2, I 1]] done = some (I 2, [], true) := by kernel_rfl
theorem num_211 : fnK Try.prog (kc (tabOf [e_num 4])) 40 (rnd [] 40 10) 54 [.agg [I 2, I 1, I 1]] done = some (I 2, [], true) := by kernel_rfl
theorem num_113 : fnK Try.prog (kc (tabOf [e_num 5])) 40 (rnd [] 40 10) 54 [.agg [I 1, I 1, I 3]] done = some (I 3, [], true) := by kernel_rfl
theorem num_122 : fnK Try.prog (kc (tabOf [e_num 5])) 40 (rnd [] 40 10) 54 [.agg [I 1, I 2, I 2]] done = some (I 4, [], true) := by kernel_rfl
theorem num_131 : fnK Try.prog (kc (tabOf [e_num 5])) 40 (rnd [] 40 10) 54 [.agg [I 1, I 3, I 1]] done = some (I 3, [], true) := by kernel_rfl
theorem num_212 : fnK Try.prog (kc (tabOf [e_num 5])) 40 (rnd [] 40 10) 54 [.agg [I 2, I 1, I 2]] done = some (I 4, [], true) := by kernel_rfl
theorem num_221 : fnK Try.prog (kc (tabOf [e_num 5])) 40 (rnd [] 40 10) 54 [.agg [I 2, I 2, I 1]] done = some (I 4, [], true) := by kernel_rfl
theorem num_311 : fnK Try.prog (kc (tabOf [e_num 5])) 40 (rnd [] 40 10) 54 [.agg [I 3, I 1, I 1]] done = some (I 3, [], true) := by kernel_rfl
theorem num_123 : fnK Try.prog (kc (tabOf [e_num 6])) 40 (rnd [] 40 10) 54 [.agg [I 1, I 2, I 3]] done = some (I 6, [], true) := by kernel_rfl
theorem num_132 : fnK Try.prog (kc (tabOf [e_num 6])) 40 (rnd [] 40 10) 54 [.agg [I 1, I 3, I 2]] done = some (I 6, [], true) := by kernel_rfl
theorem num_213 : fnK Try.prog (kc (tabOf [e_num 6])) 40 (rnd [] 40 10) 54 [.agg [I 2, I 1, I 3]] done = some (I 6, [], true) := by kernel_rfl
theorem num_222 : fnK Try.prog (kc (tabOf [e_num 6])) 40 (rnd [] 40 10) 54 [.agg [I 2, I 2, I 2]] done = some (I 7, [], true) := by kernel_rfl
theorem num_231 : fnK Try.prog (kc (tabOf [e_num 6])) 40 (rnd [] 40 10) 54 [.agg [I 2, I 3, I 1]] done = some (I 6, [], true) := by kernel_rfl
theorem num_312 : fnK Try.prog (kc (tabOf [e_num 6])) 40 (rnd [] 40 10) 54 [.agg [I 3, I 1, I 2]] done = some (I 6, [], true) := by kernel_rfl
theorem num_321 : fnK Try.prog (kc (tabOf [e_num 6])) 40 (rnd [] 40 10) 54 [.agg [I 3, I 2, I 1]] done = some (I 6, [], true) := by kernel_rfl
theorem num_133 : fnK Try.prog (kc (tabOf [e_num 7])) 40 (rnd [] 40 10) 54 [.agg [I 1, I 3, I 3]] done = some (I 9, [], true) := by kernel_rfl
theorem num_223 : fnK Try.prog (kc (tabOf [e_num 7])) 40 (rnd [] 40 10) 54 [.agg [I 2, I 2, I 3]] done = some (I 11, [], true) := by kernel_rfl
theorem num_232 : fnK Try.prog (kc (tabOf [e_num 7])) 40 (rnd [] 40 10) 54 [.agg [I 2, I 3, I 2]] done = some (I 11, [], true) := by kernel_rfl
theorem num_313 : fnK Try.prog (kc (tabOf [e_num 7])) 40 (rnd [] 40 10) 54 [.agg [I 3, I 1, I 3]] done = some (I 9, [], true) := by kernel_rfl
theorem num_322 : fnK Try.prog (kc (tabOf [e_num 7])) 40 (rnd [] 40 10) 54 [.agg [I 3, I 2, I 2]] done = some (I 11, [], true) := by kernel_rfl
theorem num_331 : fnK Try.prog (kc (tabOf [e_num 7])) 40 (rnd [] 40 10) 54 [.agg [I 3, I 3, I 1]] done = some (I 9, [], true) := by kernel_rfl
theorem num_233 : fnK Try.prog (kc (tabOf [e_num 8])) 40 (rnd [] 40 10) 54 [.agg [I 2, I 3, I 3]] done = some (I 17, [], true) := by kernel_rfl
theorem num_323 : fnK Try.prog (kc (tabOf [e_num 8])) 40 (rnd [] 40 10) 54 [.agg [I 3, I 2, I 3]] done = some (I 17, [], true) := by kernel_rfl
theorem num_332 : fnK Try.prog (kc (tabOf [e_num 8])) 40 (rnd [] 40 10) 54 [.agg [I 3, I 3, I 2]] done = some (I 17, [], true) := by kernel_rfl
theorem num_333 : fnK Try.prog (kc (tabOf [e_num 9])) 40 (rnd [] 40 10) 54 [.agg [I 3, I 3, I 3]] done = some (I 26, [], true) := by kernel_rfl
theorem num_ok3 : EntOk (e_num 3) := by
  intro vs v new hv
  unfold e_num at hv
  simp only at hv
  split at hv
  · rename_i a b c
    by_cases hs : a + b + c < 3
    · simp only [hs, decide_true, cond_true, Option.map_eq_some_iff] at hv
      obtain ⟨y, hy, _⟩ := hv
      rcases divT_cases hy with ⟨rfl, rfl, rfl, _⟩ | ⟨rfl, rfl, rfl, _⟩ | ⟨rfl, rfl, rfl, _⟩ | ⟨rfl, rfl, rfl, _⟩ | ⟨rfl, rfl, rfl, _⟩ | ⟨rfl, rfl, rfl, _⟩ | ⟨rfl, rfl, rfl, _⟩ | ⟨rfl, rfl, rfl, _⟩ | ⟨rfl, rfl, rfl, _⟩ | ⟨rfl, rfl, rfl, _⟩ | ⟨rfl, rfl, rfl, _⟩ | ⟨rfl, rfl, rfl, _⟩ | ⟨rfl, rfl, rfl, _⟩ | ⟨rfl, rfl, rfl, _⟩ | ⟨rfl, rfl, rfl, _⟩ | ⟨rfl, rfl, rfl, _⟩ | ⟨rfl, rfl, rfl, _⟩ | ⟨rfl, rfl, rfl, _⟩ | ⟨rfl, rfl, rfl, _⟩ | ⟨rfl, rfl, rfl, _⟩ | ⟨rfl, rfl, rfl, _⟩ | ⟨rfl, rfl, rfl, _⟩ | ⟨rfl, rfl, rfl, _⟩ | ⟨rfl, rfl, rfl, _⟩ | ⟨rfl, rfl, rfl, _⟩ | ⟨rfl, rfl, rfl, _⟩ | ⟨rfl, rfl, rfl, _⟩ <;> omega
    · simp [hs] at hv
  · cases hv
theorem num_ok4 : EntOk (e_num 4) := by
  intro vs v new hv
  have hv0 := hv
  unfold e_num at hv
  simp only at hv
  split at hv
  · rename_i a b c
    by_cases hs : a + b + c < 4
    · simp only [hs, decide_true, cond_true, Option.map_eq_some_iff] at hv
      obtain ⟨y, hy, he⟩ := hv
      by_cases hl : a + b + c < 3
      · exact num_ok3 _ v new (by unfold e_num; simp only [hl, decide_true, cond_true, hy, Option.map_some]; rw [← he])
      · simp only [Prod.mk.injEq, true_and] at he
        obtain ⟨rfl, rfl⟩ := he
        rcases divT_cases hy with ⟨rfl, rfl, rfl, rfl⟩ | ⟨rfl, rfl, rfl, rfl⟩ | ⟨rfl, rfl, rfl, rfl⟩ | ⟨rfl, rfl, rfl, rfl⟩ | ⟨rfl, rfl, rfl, rfl⟩ | ⟨rfl, rfl, rfl, rfl⟩ | ⟨rfl, rfl, rfl, rfl⟩ | ⟨rfl, rfl, rfl, rfl⟩ | ⟨rfl, rfl, rfl, rfl⟩ | ⟨rfl, rfl, rfl, rfl⟩ | ⟨rfl, rfl, rfl, rfl⟩ | ⟨rfl, rfl, rfl, rfl⟩ | ⟨rfl, rfl, rfl, rfl⟩ | ⟨rfl, rfl, rfl, rfl⟩ | ⟨rfl, rfl, rfl, rfl⟩ | ⟨rfl, rfl, rfl, rfl⟩ | ⟨rfl, rfl, rfl, rfl⟩ | ⟨rfl, rfl, rfl, rfl⟩ | ⟨rfl, rfl, rfl, rfl⟩ | ⟨rfl, rfl, rfl, rfl⟩ | ⟨rfl, rfl, rfl, rfl⟩ | ⟨rfl, rfl, rfl, rfl⟩ | ⟨rfl, rfl, rfl, rfl⟩ | ⟨rfl, rfl, rfl, rfl⟩ | ⟨rfl, rfl, rfl, rfl⟩ | ⟨rfl, rfl, rfl, rfl⟩ | ⟨rfl, rfl, rfl, rfl⟩
        · exact ent_run' (l := [e_num 3]) (by simp [num_ok3]) rfl rfl num_111 rfl
        · omega
        · omega
        · omega
        · omega
        · omega
        · omega
        · omega
        · omega
        · omega
        · omega
        · omega
        · omega
        · omega
        · omega
        · omega
        · omega
        · omega
        · omega
        · omega
        · omega
        · omega
        · omega
        · omega
        · omega
        · omega
        · omega
    · simp [hs] at hv
  · cases hv
theorem num_ok5 : EntOk (e_num 5) := by
  intro vs v new hv
  have hv0 := hv
  unfold e_num at hv
  simp only at hv
  split at hv
  · rename_i a b c
    by_cases hs : a + b + c < 5
    · simp only [hs, decide_true, cond_true, Option.map_eq_some_iff] at hv
      obtain ⟨y, hy, he⟩ := hv
      by_cases hl : a + b + c < 4
      · exact num_ok4 _ v new (by unfold e_num; simp only [hl, decide_true, cond_true, hy, Option.map_some]; rw [← he])
      · simp only [Prod.mk.injEq, true_and] at he
        obtain ⟨rfl, rfl⟩ := he
        rcases divT_cases hy with ⟨rfl, rfl, rfl, rfl⟩ | ⟨rfl, rfl, rfl, rfl⟩ | ⟨rfl, rfl, rfl, rfl⟩ | ⟨rfl, rfl, rfl, rfl⟩ | ⟨rfl, rfl, rfl, rfl⟩ | ⟨rfl, rfl, rfl, rfl⟩ | ⟨rfl, rfl, rfl, rfl⟩ | ⟨rfl, rfl, rfl, rfl⟩ | ⟨rfl, rfl, rfl, rfl⟩ | ⟨rfl, rfl, rfl, rfl⟩ | ⟨rfl, rfl, rfl, rfl⟩ | ⟨rfl, rfl, rfl, rfl⟩ | ⟨rfl, rfl, rfl, rfl⟩ | ⟨rfl, rfl, rfl, rfl⟩ | ⟨rfl, rfl, rfl, rfl⟩ | ⟨rfl, rfl, rfl, rfl⟩ | ⟨rfl, rfl, rfl, rfl⟩ | ⟨rfl, rfl, rfl, rfl⟩ | ⟨rfl, rfl, rfl, rfl⟩ | ⟨rfl, rfl, rfl, rfl⟩ | ⟨rfl, rfl, rfl, rfl⟩ | ⟨rfl, rfl, rfl, rfl⟩ | ⟨rfl, rfl, rfl, rfl⟩ | ⟨rfl, rfl, rfl, rfl⟩ | ⟨rfl, rfl, rfl, rfl⟩ | ⟨rfl, rfl, rfl, rfl⟩ | ⟨rfl, rfl, rfl, rfl⟩
        · omega
        · exact ent_run' (l := [e_num 4]) (by simp [num_ok4]) rfl rfl num_112 rfl
        · exact ent_run' (l := [e_num 4]) (by simp [num_ok4]) rfl rfl num_121 rfl
        · exact ent_run' (l := [e_num 4]) (by simp [num_ok4]) rfl rfl num_211 rfl
        · omega
        · omega
        · omega
        · omega
        · omega
        · omega
        · omega
        · omega
        · omega
        · omega
        · omega
        · omega
        · omega
        · omega
        · omega
        · omega
        · omega
        · omega
        · omega
        · omega
        · omega
        · omega
        · omega
    · simp [hs] at hv
  · cases hv
theorem num_ok6 : EntOk (e_num 6) := by
  intro vs v new hv
  have hv0 := hv
  unfold e_num at hv
  simp only at hv
  split at hv
  · rename_i a b c
    by_cases hs : a + b + c < 6
    · simp only [hs, decide_true, cond_true, Option.map_eq_some_iff] at hv
      obtain ⟨y, hy, he⟩ := hv
      by_cases hl : a + b + c < 5
      · exact num_ok5 _ v new (by unfold e_num; simp only [hl, decide_true, cond_true, hy, Option.map_some]; rw [← he])
      · simp only [Prod.mk.injEq, true_and] at he
        obtain ⟨rfl, rfl⟩ := he
        rcases divT_cases hy with ⟨rfl, rfl, rfl, rfl⟩ | ⟨rfl, rfl, rfl, rfl⟩ | ⟨rfl, rfl, rfl, rfl⟩ | ⟨rfl, rfl, rfl, rfl⟩ | ⟨rfl, rfl, rfl, rfl⟩ | ⟨rfl, rfl, rfl, rfl⟩ | ⟨rfl, rfl, rfl, rfl⟩ | ⟨rfl, rfl, rfl, rfl⟩ | ⟨rfl, rfl, rfl, rfl⟩ | ⟨rfl, rfl, rfl, rfl⟩ | ⟨rfl, rfl, rfl, rfl⟩ | ⟨rfl, rfl, rfl, rfl⟩ | ⟨rfl, rfl, rfl, rfl⟩ | ⟨rfl, rfl, rfl, rfl⟩ | ⟨rfl, rfl, rfl, rfl⟩ | ⟨rfl, rfl, rfl, rfl⟩ | ⟨rfl, rfl, rfl, rfl⟩ | ⟨rfl, rfl, rfl, rfl⟩ | ⟨rfl, rfl, rfl, rfl⟩ | ⟨rfl, rfl, rfl, rfl⟩ | ⟨rfl, rfl, rfl, rfl⟩ | ⟨rfl, rfl, rfl, rfl⟩ | ⟨rfl, rfl, rfl, rfl⟩ | ⟨rfl, rfl, rfl, rfl⟩ | ⟨rfl, rfl, rfl, rfl⟩ | ⟨rfl, rfl, rfl, rfl⟩ | ⟨rfl, rfl, rfl, rfl⟩
        · omega
        · omega
        · omega
        · omega
        · exact ent_run' (l := [e_num 5]) (by simp [num_ok5]) rfl rfl num_113 rfl
        · exact ent_run' (l := [e_num 5]) (by simp [num_ok5]) rfl rfl num_122 rfl
        · exact ent_run' (l := [e_num 5]) (by simp [num_ok5]) rfl rfl num_131 rfl
        · exact ent_run' (l := [e_num 5]) (by simp [num_ok5]) rfl rfl num_212 rfl
        · exact ent_run' (l := [e_num 5]) (by simp [num_ok5]) rfl rfl num_221 rfl
        · exact ent_run' (l := [e_num 5]) (by simp [num_ok5]) rfl rfl num_311 rfl
        · omega
        · omega
        · omega
        · omega
        · omega
        · omega
        · omega
        · omega
        · omega
        · omega
        · omega
        · omega
        · omega
        · omega
        · omega
        · omega
        · omega
    · simp [hs] at hv
  · cases hv
theorem num_ok7 : EntOk (e_num 7) := by
  intro vs v new hv
  have hv0 := hv
  unfold e_num at hv
  simp only at hv
  split at hv
  · rename_i a b c
    by_cases hs : a + b + c < 7
    · simp only [hs, decide_true, cond_true, Option.map_eq_some_iff] at hv
      obtain ⟨y, hy, he⟩ := hv
      by_cases hl : a + b + c < 6
      · exact num_ok6 _ v new (by unfold e_num; simp only [hl, decide_true, cond_true, hy, Option.map_some]; rw [← he])
      · simp only [Prod.mk.injEq, true_and] at he
        obtain ⟨rfl, rfl⟩ := he
        rcases divT_cases hy with ⟨rfl, rfl, rfl, rfl⟩ | ⟨rfl, rfl, rfl, rfl⟩ | ⟨rfl, rfl, rfl, rfl⟩ | ⟨rfl, rfl, rfl, rfl⟩ | ⟨rfl, rfl, rfl, rfl⟩ | ⟨rfl, rfl, rfl, rfl⟩ | ⟨rfl, rfl, rfl, rfl⟩ | ⟨rfl, rfl, rfl, rfl⟩ | ⟨rfl, rfl, rfl, rfl⟩ | ⟨rfl, rfl, rfl, rfl⟩ | ⟨rfl, rfl, rfl, rfl⟩ | ⟨rfl, rfl, rfl, rfl⟩ | ⟨rfl, rfl, rfl, rfl⟩ | ⟨rfl, rfl, rfl, rfl⟩ | ⟨rfl, rfl, rfl, rfl⟩ | ⟨rfl, rfl, rfl, rfl⟩ | ⟨rfl, rfl, rfl, rfl⟩ | ⟨rfl, rfl, rfl, rfl⟩ | ⟨rfl, rfl, rfl, rfl⟩ | ⟨rfl, rfl, rfl, rfl⟩ | ⟨rfl, rfl, rfl, rfl⟩ | ⟨rfl, rfl, rfl, rfl⟩ | ⟨rfl, rfl, rfl, rfl⟩ | ⟨rfl, rfl, rfl, rfl⟩ | ⟨rfl, rfl, rfl, rfl⟩ | ⟨rfl, rfl, rfl, rfl⟩ | ⟨rfl, rfl, rfl, rfl⟩
        · omega
        · omega
        · omega
        · omega
        · omega
        · omega
        · omega
        · omega
        · omega
        · omega
        · exact ent_run' (l := [e_num 6]) (by simp [num_ok6]) rfl rfl num_123 rfl
        · exact ent_run' (l := [e_num 6]) (by simp [num_ok6]) rfl rfl num_132 rfl
        · exact ent_run' (l := [e_num 6]) (by simp [num_ok6]) rfl rfl num_213 rfl
        · exact ent_run' (l := [e_num 6]) (by simp [num_ok6]) rfl rfl num_222 rfl
        · exact ent_run' (l := [e_num 6]) (by simp [num_ok6]) rfl rfl num_231 rfl
        · exact ent_run' (l := [e_num 6]) (by simp [num_ok6]) rfl rfl num_312 rfl
        · exact ent_run' (l := [e_num 6]) (by simp [num_ok6]) rfl rfl num_321 rfl
        · omega
        · omega
        · omega
        · omega
        · omega
        · omega
        · omega
        · omega
        · omega
        · omega
    · simp [hs] at hv
  · cases hv
theorem num_ok8 : EntOk (e_num 8) := by
  intro vs v new hv
  have hv0 := hv
  unfold e_num at hv
  simp only at hv
  split at hv
  · rename_i a b c
    by_cases hs : a + b + c < 8
    · simp only [hs, decide_true, cond_true, Option.map_eq_some_iff] at hv
      obtain ⟨y, hy, he⟩ := hv
      by_cases hl : a + b + c < 7
      · exact num_ok7 _ v new (by unfold e_num; simp only [hl, decide_true, cond_true, hy, Option.map_some]; rw [← he])
      · simp only [Prod.mk.injEq, true_and] at he
        obtain ⟨rfl, rfl⟩ := he
        rcases divT_cases hy with ⟨rfl, rfl, rfl, rfl⟩ | ⟨rfl, rfl, rfl, rfl⟩ | ⟨rfl, rfl, rfl, rfl⟩ | ⟨rfl, rfl, rfl, rfl⟩ | ⟨rfl, rfl, rfl, rfl⟩ | ⟨rfl, rfl, rfl, rfl⟩ | ⟨rfl, rfl, rfl, rfl⟩ | ⟨rfl, rfl, rfl, rfl⟩ | ⟨rfl, rfl, rfl, rfl⟩ | ⟨rfl, rfl, rfl, rfl⟩ | ⟨rfl, rfl, rfl, rfl⟩ | ⟨rfl, rfl, rfl, rfl⟩ | ⟨rfl, rfl, rfl, rfl⟩ | ⟨rfl, rfl, rfl, rfl⟩ | ⟨rfl, rfl, rfl, rfl⟩ | ⟨rfl, rfl, rfl, rfl⟩ | ⟨rfl, rfl, rfl, rfl⟩ | ⟨rfl, rfl, rfl, rfl⟩ | ⟨rfl, rfl, rfl, rfl⟩ | ⟨rfl, rfl, rfl, rfl⟩ | ⟨rfl, rfl, rfl, rfl⟩ | ⟨rfl, rfl, rfl, rfl⟩ | ⟨rfl, rfl, rfl, rfl⟩ | ⟨rfl, rfl, rfl, rfl⟩ | ⟨rfl, rfl, rfl, rfl⟩ | ⟨rfl, rfl, rfl, rfl⟩ | ⟨rfl, rfl, rfl, rfl⟩
        · omega
        · omega
        · omega
        · omega
        · omega
        · omega
        · omega
        · omega
        · omega
        · omega
        · omega
        · omega
        · omega
        · omega
        · omega
        · omega
        · omega
        · exact ent_run' (l := [e_num 7]) (by simp [num_ok7]) rfl rfl num_133 rfl
        · exact ent_run' (l := [e_num 7]) (by simp [num_ok7]) rfl rfl num_223 rfl
        · exact ent_run' (l := [e_num 7]) (by simp [num_ok7]) rfl rfl num_232 rfl
        · exact ent_run' (l := [e_num 7]) (by simp [num_ok7]) rfl rfl num_313 rfl
        · exact ent_run' (l := [e_num 7]) (by simp [num_ok7]) rfl rfl num_322 rfl
        · exact ent_run' (l := [e_num 7]) (by simp [num_ok7]) rfl rfl num_331 rfl
        · omega
        · omega
        · omega
        · omega
    · simp [hs] at hv
  · cases hv
theorem num_ok9 : EntOk (e_num 9) := by
  intro vs v new hv
  have hv0 := hv
  unfold e_num at hv
  simp only at hv
  split at hv
  · rename_i a b c
    by_cases hs : a + b + c < 9
    · simp only [hs, decide_true, cond_true, Option.map_eq_some_iff] at hv
      obtain ⟨y, hy, he⟩ := hv
      by_cases hl : a + b + c < 8
      · exact num_ok8 _ v new (by unfold e_num; simp only [hl, decide_true, cond_true, hy, Option.map_some]; rw [← he])
      · simp only [Prod.mk.injEq, true_and] at he
        obtain ⟨rfl, rfl⟩ := he
        rcases divT_cases hy with ⟨rfl, rfl, rfl, rfl⟩ | ⟨rfl, rfl, rfl, rfl⟩ | ⟨rfl, rfl, rfl, rfl⟩ | ⟨rfl, rfl, rfl, rfl⟩ | ⟨rfl, rfl, rfl, rfl⟩ | ⟨rfl, rfl, rfl, rfl⟩ | ⟨rfl, rfl, rfl, rfl⟩ | ⟨rfl, rfl, rfl, rfl⟩ | ⟨rfl, rfl, rfl, rfl⟩ | ⟨rfl, rfl, rfl, rfl⟩ | ⟨rfl, rfl, rfl, rfl⟩ | ⟨rfl, rfl, rfl, rfl⟩ | ⟨rfl, rfl, rfl, rfl⟩ | ⟨rfl, rfl, rfl, rfl⟩ | ⟨rfl, rfl, rfl, rfl⟩ | ⟨rfl, rfl, rfl, rfl⟩ | ⟨rfl, rfl, rfl, rfl⟩ | ⟨rfl, rfl, rfl, rfl⟩ | ⟨rfl, rfl, rfl, rfl⟩ | ⟨rfl, rfl, rfl, rfl⟩ | ⟨rfl, rfl, rfl, rfl⟩ | ⟨rfl, rfl, rfl, rfl⟩ | ⟨rfl, rfl, rfl, rfl⟩ | ⟨rfl, rfl, rfl, rfl⟩ | ⟨rfl, rfl, rfl, rfl⟩ | ⟨rfl, rfl, rfl, rfl⟩ | ⟨rfl, rfl, rfl, rfl⟩
        · omega
        · omega
        · omega
        · omega
        · omega
        · omega
        · omega
        · omega
        · omega
        · omega
        · omega
        · omega
        · omega
        · omega
        · omega
        · omega
        · omega
        · omega
        · omega
        · omega
        · omega
        · omega
        · omega
        · exact ent_run' (l := [e_num 8]) (by simp [num_ok8]) rfl rfl num_233 rfl
        · exact ent_run' (l := [e_num 8]) (by simp [num_ok8]) rfl rfl num_323 rfl
        · exact ent_run' (l := [e_num 8]) (by simp [num_ok8]) rfl rfl num_332 rfl
        · omega
    · simp [hs] at hv
  · cases hv
theorem num_ok10 : EntOk (e_num 10) := by
  intro vs v new hv
  have hv0 := hv
  unfold e_num at hv
  simp only at hv
  split at hv
  · rename_i a b c
    by_cases hs : a + b + c < 10
    · simp only [hs, decide_true, cond_true, Option.map_eq_some_iff] at hv
      obtain ⟨y, hy, he⟩ := hv
      by_cases hl : a + b + c < 9
      · exact num_ok9 _ v new (by unfold e_num; simp only [hl, decide_true, cond_true, hy, Option.map_some]; rw [← he])
      · simp only [Prod.mk.injEq, true_and] at he
        obtain ⟨rfl, rfl⟩ := he
        rcases divT_cases hy with ⟨rfl, rfl, rfl, rfl⟩ | ⟨rfl, rfl, rfl, rfl⟩ | ⟨rfl, rfl, rfl, rfl⟩ | ⟨rfl, rfl, rfl, rfl⟩ | ⟨rfl, rfl, rfl, rfl⟩ | ⟨rfl, rfl, rfl, rfl⟩ | ⟨rfl, rfl, rfl, rfl⟩ | ⟨rfl, rfl, rfl, rfl⟩ | ⟨rfl, rfl, rfl, rfl⟩ | ⟨rfl, rfl, rfl, rfl⟩ | ⟨rfl, rfl, rfl, rfl⟩ | ⟨rfl, rfl, rfl, rfl⟩ | ⟨rfl, rfl, rfl, rfl⟩ | ⟨rfl, rfl, rfl, rfl⟩ | ⟨rfl, rfl, rfl, rfl⟩ | ⟨rfl, rfl, rfl, rfl⟩ | ⟨rfl, rfl, rfl, rfl⟩ | ⟨rfl, rfl, rfl, rfl⟩ | ⟨rfl, rfl, rfl, rfl⟩ | ⟨rfl, rfl, rfl, rfl⟩ | ⟨rfl, rfl, rfl, rfl⟩ | ⟨rfl, rfl, rfl, rfl⟩ | ⟨rfl, rfl, rfl, rfl⟩ | ⟨rfl, rfl, rfl, rfl⟩ | ⟨rfl, rfl, rfl, rfl⟩ | ⟨rfl, rfl, rfl, rfl⟩ | ⟨rfl, rfl, rfl, rfl⟩
        · omega
        · omega
        · omega
        · omega
        · omega
        · omega
        · omega
        · omega
        · omega
        · omega
        · omega
        · omega
        · omega
        · omega
        · omega
        · omega
        · omega
        · omega
        · omega
        · omega
        · omega
        · omega
        · omega
        · omega
        · omega
        · omega
        · exact ent_run' (l := [e_num 9]) (by simp [num_ok9]) rfl rfl num_333 rfl
    · simp [hs] at hv
  · cases hv
/-- the join number, and the code -/
def jnC (a b c : Int) : Int := bif sizeB a && (sizeB b && sizeB c) then 0 else 2
def g_jn : G := fun vs => match vs with
  | [.int .i64 a, .int .i64 b, .int .i64 c] => some (true, .tup [I (jnV a b c), I (jnC a b c)], [])
  | _ => none
def e_implJoinNumber : Ent := (16, g_jn)
def e_specJoinNumber : Ent := (15, g_jn)
def e_noDiv : Ent := (56, fun _ => none)
def e_noNum : Ent := (54, fun _ => none)
end Go.Proofs.Ytjdciikfbinchaa.Fn
