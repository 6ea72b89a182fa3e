/- Contracts: words. -/
import Derived.Test.YthbmlioknnhleaaCfg
import Derived.KernelRfl
namespace Go.Proofs.Ythbmlioknnhleaa.Fn
open Go Go.Proofs.Ythbmlioknnhleaa.Abs

abbrev I (n : Int) : AV := .int .i64 n
abbrev B (n : Int) : AV := .int .u8 n
abbrev W (n : Int) : Int := IntKind.i64.wrap n
abbrev R := Option (AV × List KB × Bool)
def noT : KTbl := fun _ => none
/-- k rounds of the loops that are listed, n of the others -/
def rnd (l : List Nat) (k n : Nat) : Rounds := fun i => bif l.contains i then k else n
/-- x, if c -/
def chk (c : Bool) (x : R) : R := bif c then x else none
def chkn (c : Bool) (x : R) : R := bif c then none else x
theorem chkd {p : Prop} [Decidable p] (h : p) (x : R) : chk (decide p) x = x := by simp [chk, h]
theorem chkb {c : Bool} (h : c = true) (x : R) : chk c x = x := by simp [chk, h]
theorem chknd {p : Prop} [Decidable p] (h : ¬ p) (x : R) : chkn (decide p) x = x := by simp [chkn, h]
theorem W_of {n : Int} (h1 : -9223372036854775808 ≤ n) (h2 : n ≤ 9223372036854775807) : W n = n := by
  show IntKind.i64.wrap n = n
  rw [IntKind.wrap_i64]
  omega
/-- of all numbers from i on, d of them -/
def allN (f : Nat → Bool) : Nat → Nat → Bool
  | _, 0 => true
  | i, d + 1 => f i && allN f (i + 1) d
theorem allN_iff (f : Nat → Bool) : ∀ (d i : Nat), allN f i d = true ↔ ∀ j, i ≤ j → j < i + d → f j = true
  | 0, i => by simp [allN]; omega
  | d + 1, i => by
    simp only [allN, Bool.and_eq_true, allN_iff f d (i + 1)]
    constructor
    · rintro ⟨h1, h2⟩ j h3 h4
      by_cases h : j = i
      · subst h; exact h1
      · exact h2 j (by omega) (by omega)
    · intro h
      exact ⟨h i (Nat.le_refl _) (by omega), fun j h1 h2 => h j (by omega) (by omega)⟩
theorem allN_congr {f g : Nat → Bool} : ∀ (d i : Nat), (∀ j, i ≤ j → j < i + d → f j = g j) → allN f i d = allN g i d
  | 0, i, _ => rfl
  | d + 1, i, h => by
    simp only [allN]
    rw [h i (Nat.le_refl _) (by omega), allN_congr d (i + 1) fun j h1 h2 => h j (by omega) (by omega)]

/-! ### entries of tables -/
abbrev G := List AV → Option (Bool × AV × List KB)
abbrev Ent := Nat × G
/-- an entry whose answer hangs on conditions -/
abbrev CEnt := Nat × (List AV → Option Ans)
def tabOf (l : List Ent) (cl : List CEnt := []) : KTbl := fun f => match l.lookup f with
  | some g => some fun vs => (g vs).map .is
  | none => cl.lookup f
/-- what an entry tells is so -/
def EntOk (e : Ent) : Prop := ∀ vs v new, e.2 vs = some (true, v, new) → ∃ vs' v0 new0, vs'.length = vs.length ∧ (∀ (j : Nat) (x x' : AV), vs[j]? = some x → vs'[j]? = some x' → Weak x x') ∧ allNoL vs' = true ∧ Tells Try.prog e.1 vs' v0 new0 ∧
  ((v = v0 ∧ absH new = new0 ∧ clean v0 = true ∧ cleanB new0) ∨ (absH new = [] ∧ FrzRel new0 v0 v))
/-- what a call tells -/
def Told (f : Nat) (vs : List AV) (v : AV) (new : List KB) : Prop := ∃ vs' v0 new0, vs'.length = vs.length ∧ (∀ (j : Nat) (x x' : AV), vs[j]? = some x → vs'[j]? = some x' → Weak x x') ∧ allNoL vs' = true ∧ Tells Try.prog f vs' v0 new0 ∧
  ((v = v0 ∧ absH new = new0 ∧ clean v0 = true ∧ cleanB new0) ∨ (absH new = [] ∧ FrzRel new0 v0 v))
def CEntOk (e : CEnt) : Prop := ∀ vs a, e.2 vs = some a → a.val.1 = true → Told e.1 vs a.val.2.1 a.val.2.2
theorem none_cok : ∀ e ∈ ([] : List CEnt), CEntOk e := fun _ h => by cases h
theorem lookup_mem {α : Type} : ∀ {l : List (Nat × α)} {f : Nat} {g : α}, l.lookup f = some g → (f, g) ∈ l
  | [], f, g, h => by simp at h
  | (f', g') :: l, f, g, h => by
    rw [List.lookup_cons] at h
    by_cases e : f = f'
    · subst e
      simp at h
      subst h
      simp
    · have : (f == f') = false := by simpa using e
      rw [this] at h
      exact List.mem_cons_of_mem _ (lookup_mem h)
theorem tabOf_ok' {l : List Ent} {cl : List CEnt} (h : ∀ e ∈ l, EntOk e) (hc : ∀ e ∈ cl, CEntOk e) : KTblOk Try.prog (tabOf l cl) := by
  intro f g hg vs v new hv
  unfold tblOf tabOf at hg
  simp only [Option.map_eq_some_iff] at hg
  obtain ⟨g0, hg0, rfl⟩ := hg
  simp only [Option.bind_eq_some_iff] at hv
  obtain ⟨a, ha, he⟩ := hv
  obtain ⟨hb, he⟩ := bif_k he
  cases he
  split at hg0
  · rename_i g hl
    cases hg0
    simp only [Option.map_eq_some_iff] at ha
    obtain ⟨y, hy, rfl⟩ := ha
    obtain ⟨b, v, new⟩ := y
    have hb' : b = true := hb
    subst hb'
    exact h _ (lookup_mem hl) vs v new hy
  · exact hc _ (lookup_mem hg0) vs a ha hb
theorem tabOf_ok {l : List Ent} (h : ∀ e ∈ l, EntOk e) : KTblOk Try.prog (tabOf l) := tabOf_ok' h none_cok

theorem mixed : Try.prog.follows .mixedOrders = true := Try.checked.mixed
/-- the plain way: what a run over a sound table gives -/
theorem ent_run {l : List Ent} (ht : ∀ e ∈ l, EntOk e) {n : Nat} {m : Rounds} {f : Nat} {vs vs' : List AV} {v : AV} {new : List KB} (hlen : vs'.length = vs.length) (hw : ∀ (j : Nat) (x x' : AV), vs[j]? = some x → vs'[j]? = some x' → Weak x x') (hL : allNoL vs' = true)
    (hf : (tabOf l) f = none) (h : fnK Try.prog (kc (tabOf l)) n m f vs' done = some (v, new, true)) (hc : clean v = true) (hB : cleanB (absH new)) :
    ∃ vs' v0 new0, vs'.length = vs.length ∧ (∀ (j : Nat) (x x' : AV), vs[j]? = some x → vs'[j]? = some x' → Weak x x') ∧ allNoL vs' = true ∧ Tells Try.prog f vs' v0 new0 ∧
  ((v = v0 ∧ absH new = new0 ∧ clean v0 = true ∧ cleanB new0) ∨ (absH new = [] ∧ FrzRel new0 v0 v)) :=
  ⟨vs', v, absH new, hlen, hw, hL, fnK_sem mixed plain (tabOf_ok ht) (KMTOk.none _) hf rfl h, .inl ⟨rfl, rfl, hc, hB⟩⟩
theorem same_weak {vs : List AV} : ∀ (j : Nat) (x x' : AV), vs[j]? = some x → vs[j]? = some x' → Weak x x' := fun j x x' h1 h2 => by
  rw [h1] at h2
  cases h2
  exact .same _
theorem cleanB_nil : cleanB (absH []) := fun _ h => by cases h
theorem cleanL_cells (k : IntKind) (q : Nat → Int) : ∀ (n i : Nat), cleanL (cellsFrom k q i n) = true
  | 0, i => rfl
  | n + 1, i => by simp [cellsFrom, cleanL, clean, cleanL_cells k q n (i + 1)]
theorem cleanB_ints (e sz : Nat) (k : IntKind) (sz' n : Nat) (q : Nat → Nat → Int) : cleanB (absH [⟨e, sz, .ints k sz' n q⟩]) := by
  intro b hb row hrow
  simp only [absH, List.map_cons, List.map_nil, List.mem_singleton] at hb
  subst hb
  simp only [KB.abs, KR.list, List.mem_map] at hrow
  obtain ⟨i, _, rfl⟩ := hrow
  exact cleanL_cells _ _ _ _
theorem abs_ints {e sz : Nat} {k : IntKind} {sz' n : Nat} {q q' : Nat → Nat → Int} (h : ∀ i j, i < n → j < sz' → q i j = q' i j) : absH [⟨e, sz, .ints k sz' n q⟩] = absH [⟨e, sz, .ints k sz' n q'⟩] := by
  simp only [absH, List.map_cons, List.map_nil, KB.abs, KR.list]
  congr 2
  apply List.map_congr_left
  intro i hi
  have hi' : i < n := List.mem_range.1 hi
  apply List.ext_getElem?
  intro j
  rw [cellsI_get, cellsI_get]
  split
  · rw [h i j hi' (by assumption)]
  · rfl
/-- n bytes -/
def u8s (n : Nat) (cs : List AV) : Option (List Int) := (intsOf .u8 cs).bind fun l => bif decide (l.length = n) then some l else none
theorem u8s_eq {n : Nat} {cs : List AV} {l : List Int} (h : u8s n cs = some l) : cs = cellsI .u8 n (nthI l) := by
  unfold u8s at h
  simp only [Option.bind_eq_some_iff] at h
  obtain ⟨l', h1, h2⟩ := h
  by_cases hn : l'.length = n
  · simp only [hn, decide_true, cond_true, Option.some.injEq] at h2
    subst h2
    rw [intsOf_eq h1]
    exact (cells_nth hn).symm
  · simp [hn] at h2
theorem W_succ {i : Nat} (h : i < 1099511627776) : W ((i : Int) + 1) = ((i + 1 : Nat) : Int) := by
  rw [W_of (by omega) (by omega)]
  rfl
theorem nth0 (f : Nat → Int) {n j : Nat} (h : j < n) : nthI (intsFrom f 0 n) j = f j := by
  rw [nthI_intsFrom f n 0 j h, Nat.zero_add]
theorem nthF (f : Nat → Int) (i : Nat) {n j : Nat} (h : j < n) : nthI (intsFrom f i n) j = f (i + j) := nthI_intsFrom f n i j h
/-- is a form 0 everywhere? -/
def zero9 (q : Nat → Int) : Bool := decide (intsFrom q 0 9 = [0, 0, 0, 0, 0, 0, 0, 0, 0])
/-- the three forms of a product, and a product of three forms -/
def pA (f : Nat → Int) : Nat → Int := nthI (intsFrom f 0 9)
def pB (f : Nat → Int) : Nat → Int := nthI (intsFrom f 9 9)
def pC (f : Nat → Int) : Nat → Int := nthI (intsFrom f 18 9)
def prodQ (F G H : Nat → Int) : Nat → Int := nthI (intsFrom F 0 9 ++ (intsFrom G 0 9 ++ intsFrom H 0 9))
theorem pA_get (f : Nat → Int) {j : Nat} (h : j < 9) : pA f j = f j := nth0 f h
theorem pB_get (f : Nat → Int) {j : Nat} (h : j < 9) : pB f j = f (9 + j) := nthF f 9 h
theorem pC_get (f : Nat → Int) {j : Nat} (h : j < 9) : pC f j = f (18 + j) := nthF f 18 h
theorem lt9 {c : Nat} (h : c < 9) : c = 0 ∨ c = 1 ∨ c = 2 ∨ c = 3 ∨ c = 4 ∨ c = 5 ∨ c = 6 ∨ c = 7 ∨ c = 8 := by omega
theorem prodQ_A (F G H : Nat → Int) {j : Nat} (h : j < 9) : prodQ F G H j = F j := by
  rcases lt9 h with rfl | rfl | rfl | rfl | rfl | rfl | rfl | rfl | rfl <;> rfl
theorem prodQ_B (F G H : Nat → Int) {j : Nat} (h : j < 9) : prodQ F G H (9 + j) = G j := by
  rcases lt9 h with rfl | rfl | rfl | rfl | rfl | rfl | rfl | rfl | rfl <;> rfl
theorem prodQ_C (F G H : Nat → Int) {j : Nat} (h : j < 9) : prodQ F G H (18 + j) = H j := by
  rcases lt9 h with rfl | rfl | rfl | rfl | rfl | rfl | rfl | rfl | rfl <;> rfl
/-- two products agree if their forms do -/
theorem prodQ_congr {F G H F' G' H' : Nat → Int} (h1 : ∀ j, j < 9 → F j = F' j) (h2 : ∀ j, j < 9 → G j = G' j) (h3 : ∀ j, j < 9 → H j = H' j) {c : Nat} (hc : c < 27) : prodQ F G H c = prodQ F' G' H' c := by
  by_cases a : c < 9
  · rw [prodQ_A _ _ _ a, prodQ_A _ _ _ a, h1 c a]
  · by_cases b : c < 18
    · obtain ⟨j, rfl⟩ : ∃ j, c = 9 + j := ⟨c - 9, by omega⟩
      rw [prodQ_B _ _ _ (by omega), prodQ_B _ _ _ (by omega), h2 j (by omega)]
    · obtain ⟨j, rfl⟩ : ∃ j, c = 18 + j := ⟨c - 18, by omega⟩
      rw [prodQ_C _ _ _ (by omega), prodQ_C _ _ _ (by omega), h3 j (by omega)]
theorem zero9_congr {F F' : Nat → Int} (h : ∀ j, j < 9 → F j = F' j) : zero9 F = zero9 F' := by
  have : intsFrom F 0 9 = intsFrom F' 0 9 := by
    simp only [intsFrom]
    rw [h 0 (by omega), h (0 + 1) (by omega), h (0 + 1 + 1) (by omega), h (0 + 1 + 1 + 1) (by omega), h (0 + 1 + 1 + 1 + 1) (by omega), h (0 + 1 + 1 + 1 + 1 + 1) (by omega), h (0 + 1 + 1 + 1 + 1 + 1 + 1) (by omega), h (0 + 1 + 1 + 1 + 1 + 1 + 1 + 1) (by omega), h (0 + 1 + 1 + 1 + 1 + 1 + 1 + 1 + 1) (by omega)]
  unfold zero9
  rw [this]
theorem lt_not (a b : Int) : decide (a < b) = !decide (b ≤ a) := by
  by_cases h : b ≤ a
  · simp [h, Int.not_lt.2 h]
  · simp [h, Int.not_le.1 h]
/-- (not by rfl: the kernel must not unfold what stands in x) -/
theorem chk_true (x : R) : chk true x = x := by unfold chk; cases x <;> rfl
theorem cT (x y : R) : (bif true then x else y) = x := by cases x <;> rfl
theorem cF (x y : R) : (bif false then x else y) = y := by cases y <;> rfl
theorem bifT {c : Bool} (h : c = true) (x y : R) : (bif c then x else y) = x := by rw [h]; rfl
theorem bifF {c : Bool} (h : c = false) (x y : R) : (bif c then x else y) = y := by rw [h]; rfl
/-- bounds of a round -/
theorem chkr {i : Nat} {n : Nat} (h : i < n) (x : R) : chk (decide ((0 : Int) ≤ (i : Int) ∧ (i : Int) < (n : Int))) x = x := chkd ⟨by omega, by omega⟩ x
theorem chkbeq (n : Nat) (x : R) : chk (n == n) x = x := chkb (by simp) x
theorem toN (i : Nat) : Int.toNat (i : Int) = i := Int.toNat_natCast i

/-! ### calls that write into one block -/
abbrev MG := List AV → NB → Option (Bool × AV × NB)
abbrev MEnt := Nat × MG
def mtabOf (l : List MEnt) : KMT := fun f => l.lookup f
def MEntOk (e : MEnt) : Prop := ∀ vs b v b', e.2 vs b = some (true, v, b') → TellsM Try.prog e.1 vs b v b' ∧ allNoL vs = true ∧ b'.e = b.e ∧ b'.sz = b.sz ∧ b'.k = b.k ∧ b.n ≤ b'.n ∧ clean v = true
theorem mtabOf_ok {l : List MEnt} (h : ∀ e ∈ l, MEntOk e) : KMTOk Try.prog (mtabOf l) := by
  intro f g hg vs b v b' hv
  unfold mtOf mtabOf at hg
  simp only [Option.map_eq_some_iff] at hg
  obtain ⟨g0, hg0, rfl⟩ := hg
  simp only [Option.bind_eq_some_iff] at hv
  obtain ⟨⟨t, y⟩, hv', he⟩ := hv
  obtain ⟨hb, he⟩ := bif_k he
  have hb' : t = true := hb
  subst hb'
  cases he
  have hm : (f, g0) ∈ l := by
    clear h
    induction l with
    | nil => simp at hg0
    | cons a l ih =>
      obtain ⟨f', g'⟩ := a
      rw [List.lookup_cons] at hg0
      by_cases e : f = f'
      · subst e
        simp at hg0
        subst hg0
        simp
      · have : (f == f') = false := by simpa using e
        rw [this] at hg0
        exact List.mem_cons_of_mem _ (ih hg0)
  exact h _ hm vs b v b' hv'
theorem none_mok : ∀ e ∈ ([] : List MEnt), MEntOk e := fun _ h => by cases h

/-- a law at given arguments -/
theorem law_of {l : List Ent} {cl : List CEnt} {ml : List MEnt} (ht : ∀ e ∈ l, EntOk e) (hct : ∀ e ∈ cl, CEntOk e) (hmt : ∀ e ∈ ml, MEntOk e) {n : Nat} {m : Rounds} {f : Nat} {vs : List AV} {new : List KB} (hf : tabOf l cl f = none) (hfm : mtabOf ml f = none) (h : fnK Try.prog (kc (tabOf l cl) (mtabOf ml)) n m f vs done = some (.bool true, new, true)) (hL : allNoL vs = true) {w : World} {xs : Array Value} (hl : xs.size = vs.length)
    (hx : ∀ (j : Nat) x u, vs[j]? = some x → xs[j]? = some u → VRel (mem w) (fun _ => none) [] x u) : Calls Try.prog f xs w fun e w' => e = .returned (.bool true) ∧ RowKit.Below w.heap.size w w' :=
  (fnKH_run hf hfm h).elim fun _ hr => law_calls (cfg := (kc (tabOf l cl) (mtabOf ml)).cfgs Try.prog) (oraAll_keeps _ _ _) (oraAll_sound (tabOf_ok' ht hct) (mtabOf_ok hmt)) hr hL hl hx
theorem args0 {w : World} : ∀ (j : Nat) (x : AV) (u : Value), ([] : List AV)[j]? = some x → (#[] : Array Value)[j]? = some u → VRel (mem w) (fun _ => none) [] x u := fun j x u h => by simp at h
theorem argsL {w : World} {x : AV} {v : Value} {xs : List AV} {vs : List Value} (h : VRel (mem w) (fun _ => none) [] x v) (ht : ∀ (j : Nat) (x : AV) (u : Value), xs[j]? = some x → vs[j]? = some u → VRel (mem w) (fun _ => none) [] x u) :
    ∀ (j : Nat) (y : AV) (u : Value), (x :: xs)[j]? = some y → (v :: vs)[j]? = some u → VRel (mem w) (fun _ => none) [] y u
  | 0, y, u, h1, h2 => by simp at h1 h2; subst h1; subst h2; exact h
  | j + 1, y, u, h1, h2 => ht j y u (by simpa using h1) (by simpa using h2)
theorem argsN {w : World} : ∀ (j : Nat) (x : AV) (u : Value), ([] : List AV)[j]? = some x → ([] : List Value)[j]? = some u → VRel (mem w) (fun _ => none) [] x u := fun j x u h => by simp at h
theorem argsA {w : World} {xs : List AV} {vs : List Value} (h : ∀ (j : Nat) (x : AV) (u : Value), xs[j]? = some x → vs[j]? = some u → VRel (mem w) (fun _ => none) [] x u) : ∀ (j : Nat) (x : AV) (u : Value), xs[j]? = some x → vs.toArray[j]? = some u → VRel (mem w) (fun _ => none) [] x u := fun j x u h1 h2 => h j x u h1 (by simpa using h2)
end Go.Proofs.Ythbmlioknnhleaa.Fn
