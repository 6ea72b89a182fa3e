/- What is told of turned and transposed schemes is so. -/
import Derived.Test.YtpjhlkidebcllaaFg
import Derived.Test.YtpjhlkidebcllaaDturn
import Derived.Test.YtpjhlkidebcllaaEturn
namespace Go.Proofs.Ytpjhlkidebcllaa.Fn
open Go Go.Proofs.Ytpjhlkidebcllaa.Abs
set_option maxRecDepth 100000
set_option linter.unusedSimpArgs false
set_option linter.unusedSectionVars false
set_option linter.unusedVariables false
/-- a loop that puts one product behind the others in each round -/
theorem map_loop {F : Nat → Int → Nat → (Nat → Nat → Int) → R} {n : Nat} {v : Nat → AV} {g : Nat → Nat → Int}
    (hend : ∀ m qh, F (m + 1) (n : Int) n qh = some (v n, [⟨tProduct, 27, .ints .u8 27 n qh⟩], true))
    (hstep : ∀ i m qh, i < n → F (m + 1) (i : Int) i qh = F m ((i + 1 : Nat) : Int) (i + 1) (fun a c => bif decide (a < i) then qh a c else g i c)) :
    ∀ (d i m : Nat) (qh : Nat → Nat → Int), i + d = n → (∀ a c, a < i → c < 27 → g a c = qh a c) → Gives (v n) n g (F (m + d + 1) (i : Int) i qh)
  | 0, i, m, qh, h, hq => by
    obtain rfl : i = n := by omega
    rw [Nat.add_zero, hend]
    exact ⟨qh, rfl, hq⟩
  | d + 1, i, m, qh, h, hq => by
    rw [show m + (d + 1) + 1 = (m + d + 1) + 1 by omega, hstep i _ qh (by omega)]
    refine map_loop hend hstep d (i + 1) m _ (by omega) fun a c ha hc => ?_
    by_cases h' : a < i
    · simp only [h', decide_true, cond_true]; exact hq a c h' hc
    · obtain rfl : a = i := by omega
      simp only [Nat.lt_irrefl, decide_false, cond_false]
theorem rngA {n : Nat} {q : Nat → Nat → Int} (h : rngB n q = true) {i : Nat} (hi : i < n) : rng9 (pA (q i)) = true := rng9_iff.2 fun j hj => by rw [pA_get _ hj]; exact rngB_iff.1 h i j hi (by omega)
theorem rngBB {n : Nat} {q : Nat → Nat → Int} (h : rngB n q = true) {i : Nat} (hi : i < n) : rng9 (pB (q i)) = true := rng9_iff.2 fun j hj => by rw [pB_get _ hj]; exact rngB_iff.1 h i _ hi (by omega)
theorem rngC {n : Nat} {q : Nat → Nat → Int} (h : rngB n q = true) {i : Nat} (hi : i < n) : rng9 (pC (q i)) = true := rng9_iff.2 fun j hj => by rw [pC_get _ hj]; exact rngB_iff.1 h i _ hi (by omega)
theorem g3 {a b : Int} {x : Bool} (ha : 1 ≤ a ∧ a ≤ 3) (hb : 1 ≤ b ∧ b ≤ 3) (hx : x = true) : (decide (1 ≤ a ∧ a ≤ 3) && (decide (1 ≤ b ∧ b ≤ 3) && x)) = true := by simp [ha, hb, hx]

section
variable (p r k c : Int) (n : Nat) (q : Nat → Nat → Int) (hn : n ≤ 30) (hr : 1 ≤ r ∧ r ≤ 3) (hk : 1 ≤ k ∧ k ≤ 3) (hc : 1 ≤ c ∧ c ≤ 3) (hq : rngB n q = true)
include hn hr hk hc hq
theorem specTurn_run (N m : Nat) : Gives (.tup [.agg [I p, I k, I c, I r, .sl 0 0 n n], I 0]) n (fun i => turnF r k c (q i)) (LspecTurn_5 p r k c n q N (m + n + 1) 0 0 (nthR [])) := by
  have := map_loop (F := fun m x ny qh => LspecTurn_5 p r k c n q N m x ny qh) (n := n) (v := fun ny => .tup [.agg [I p, I k, I c, I r, .sl 0 0 ny ny], I 0]) (g := fun i => turnF r k c (q i)) (fun m qh => by
    show LspecTurn_5 p r k c n q N (m + 1) (n : Int) n qh = _
    rw [rspecTurn_5, bifF (decide_eq_false (Int.lt_irrefl _))]
    rfl) (fun i m qh hi => by
    show LspecTurn_5 p r k c n q N (m + 1) (i : Int) i qh = LspecTurn_5 p r k c n q N m ((i + 1 : Nat) : Int) (i + 1) _
    rw [rspecTurn_5, toN, W_succ (show i < 1099511627776 by omega), bifT (decide_eq_true (by omega)), chkd ⟨by omega, by omega⟩, chkb (g3 hr hc (rngC hq hi)), chkb (g3 hr hk (rngA hq hi)), chkbeq, chkd (by omega), chkd rfl]
    rfl) n 0 m (nthR []) (by omega) (fun a c h => by omega)
  exact this
theorem implTurn_b (N m : Nat) (hn0 : 1 ≤ n) : Gives (.tup [.agg [I p, I k, I c, I r, .sl 0 0 n n], I 0]) n (fun i => turnF r k c (q i)) (LimplTurn_5b p r k c n q N (m + (n - 1) + 1) 1 1 (fun _ => turnF r k c (q 0))) := by
  have := map_loop (F := fun m x ny qh => LimplTurn_5b p r k c n q N m x ny qh) (n := n) (v := fun ny => .tup [.agg [I p, I k, I c, I r, .sl 0 0 ny ny], I 0]) (g := fun i => turnF r k c (q i)) (fun m qh => by
    show LimplTurn_5b p r k c n q N (m + 1) (n : Int) n qh = _
    rw [rimplTurn_5b, bifF (decide_eq_false (Int.lt_irrefl _))]
    rfl) (fun i m qh hi => by
    show LimplTurn_5b p r k c n q N (m + 1) (i : Int) i qh = LimplTurn_5b p r k c n q N m ((i + 1 : Nat) : Int) (i + 1) _
    rw [rimplTurn_5b, toN, W_succ (show i < 1099511627776 by omega), bifT (decide_eq_true (by omega)), chkd ⟨by omega, by omega⟩, chkb (g3 hr hc (rngC hq hi)), chkb (g3 hr hk (rngA hq hi)), chkbeq, chkd (by omega), chkd rfl]
    rfl) (n - 1) 1 m (fun _ => turnF r k c (q 0)) (by omega) (fun a c h _ => by
      have e : a = 0 := by omega
      subst e
      rfl)
  exact this
theorem implTurn_a (N m : Nat) : (n = 0 → LimplTurn_5 p r k c n q N (m + n + 1) = some (.tup [.agg [I p, I k, I c, I r, .nilsl], I 0], [], true)) ∧
    (n ≠ 0 → Gives (.tup [.agg [I p, I k, I c, I r, .sl 0 0 n n], I 0]) n (fun i => turnF r k c (q i)) (LimplTurn_5 p r k c n q N (m + n + 1))) := by
  rw [rimplTurn_5]
  constructor
  · intro h
    subst h
    exact bifF (show decide ((0 : Int) < ((0 : Nat) : Int)) = false from rfl) _ _
  · intro h
    have hi : 0 < n := by omega
    have i : Nat := 0
    rw [bifT (decide_eq_true (by omega)), chkd ⟨by omega, by omega⟩, chkb (g3 hr hc (rngC hq hi)), chkb (g3 hr hk (rngA hq hi))]
    have := implTurn_b p r k c n q hn hr hk hc hq N m (by omega)
    rw [show m + (n - 1) + 1 = m + n by omega] at this
    exact this
end

section
variable (p r k c : Int) (n : Nat) (q : Nat → Nat → Int) (hn : n ≤ 30) (hr : 1 ≤ r ∧ r ≤ 3) (hk : 1 ≤ k ∧ k ≤ 3) (hc : 1 ≤ c ∧ c ≤ 3) (hq : rngB n q = true)
include hn hr hk hc hq
theorem specFlip_run (N m : Nat) : Gives (.tup [.agg [I p, I c, I k, I r, .sl 0 0 n n], I 0]) n (fun i => flipF r k c (q i)) (LspecFlip_5 p r k c n q N (m + n + 1) 0 0 (nthR [])) := by
  have := map_loop (F := fun m x ny qh => LspecFlip_5 p r k c n q N m x ny qh) (n := n) (v := fun ny => .tup [.agg [I p, I c, I k, I r, .sl 0 0 ny ny], I 0]) (g := fun i => flipF r k c (q i)) (fun m qh => by
    show LspecFlip_5 p r k c n q N (m + 1) (n : Int) n qh = _
    rw [rspecFlip_5, bifF (decide_eq_false (Int.lt_irrefl _))]
    rfl) (fun i m qh hi => by
    show LspecFlip_5 p r k c n q N (m + 1) (i : Int) i qh = LspecFlip_5 p r k c n q N m ((i + 1 : Nat) : Int) (i + 1) _
    rw [rspecFlip_5, toN, W_succ (show i < 1099511627776 by omega), bifT (decide_eq_true (by omega)), chkd ⟨by omega, by omega⟩, chkb (g3 hk hc (rngBB hq hi)), chkb (g3 hr hk (rngA hq hi)), chkb (g3 hr hc (rngC hq hi)), chkbeq, chkd (by omega), chkd rfl]
    rfl) n 0 m (nthR []) (by omega) (fun a c h => by omega)
  exact this
theorem implFlip_b (N m : Nat) (hn0 : 1 ≤ n) : Gives (.tup [.agg [I p, I c, I k, I r, .sl 0 0 n n], I 0]) n (fun i => flipF r k c (q i)) (LimplFlip_5b p r k c n q N (m + (n - 1) + 1) 1 1 (fun _ => flipF r k c (q 0))) := by
  have := map_loop (F := fun m x ny qh => LimplFlip_5b p r k c n q N m x ny qh) (n := n) (v := fun ny => .tup [.agg [I p, I c, I k, I r, .sl 0 0 ny ny], I 0]) (g := fun i => flipF r k c (q i)) (fun m qh => by
    show LimplFlip_5b p r k c n q N (m + 1) (n : Int) n qh = _
    rw [rimplFlip_5b, bifF (decide_eq_false (Int.lt_irrefl _))]
    rfl) (fun i m qh hi => by
    show LimplFlip_5b p r k c n q N (m + 1) (i : Int) i qh = LimplFlip_5b p r k c n q N m ((i + 1 : Nat) : Int) (i + 1) _
    rw [rimplFlip_5b, toN, W_succ (show i < 1099511627776 by omega), bifT (decide_eq_true (by omega)), chkd ⟨by omega, by omega⟩, chkb (g3 hk hc (rngBB hq hi)), chkb (g3 hr hk (rngA hq hi)), chkb (g3 hr hc (rngC hq hi)), chkbeq, chkd (by omega), chkd rfl]
    rfl) (n - 1) 1 m (fun _ => flipF r k c (q 0)) (by omega) (fun a c h _ => by
      have e : a = 0 := by omega
      subst e
      rfl)
  exact this
theorem implFlip_a (N m : Nat) : (n = 0 → LimplFlip_5 p r k c n q N (m + n + 1) = some (.tup [.agg [I p, I c, I k, I r, .nilsl], I 0], [], true)) ∧
    (n ≠ 0 → Gives (.tup [.agg [I p, I c, I k, I r, .sl 0 0 n n], I 0]) n (fun i => flipF r k c (q i)) (LimplFlip_5 p r k c n q N (m + n + 1))) := by
  rw [rimplFlip_5]
  constructor
  · intro h
    subst h
    exact bifF (show decide ((0 : Int) < ((0 : Nat) : Int)) = false from rfl) _ _
  · intro h
    have hi : 0 < n := by omega
    have i : Nat := 0
    rw [bifT (decide_eq_true (by omega)), chkd ⟨by omega, by omega⟩, chkb (g3 hk hc (rngBB hq hi)), chkb (g3 hr hk (rngA hq hi)), chkb (g3 hr hc (rngC hq hi))]
    have := implFlip_b p r k c n q hn hr hk hc hq N m (by omega)
    rw [show m + (n - 1) + 1 = m + n by omega] at this
    exact this
end

/-- functions of one scheme: told -/
theorem one_told {f : Nat} {nil : Bool} {code : Sch → Int} {res : Sch → Sch} {l : List Ent} {g : List AV → Option Ans} (hg : ∀ vs a, g vs = some a → ∃ x s, vs = [x] ∧ sch x = some s ∧ a = sAns nil (rngB s.n s.q) (code s) (res s)) (hl : ∀ e ∈ l, EntOk e) (hf : tabOf l [] f = none)
    (herr : ∀ (p r k c : Int) (n : Nat) (q : Nat → Nat → Int), code ⟨p, r, k, c, n, q⟩ ≠ 0 → fnK Try.prog (kc (tabOf l)) 40 (rnd [] 40 (n + 1)) f [.agg [I p, I r, I k, I c, .vi .u8 27 n q]] done = some (.tup [.agg [I 0, I 0, I 0, I 0, .nilsl], I (code ⟨p, r, k, c, n, q⟩)], [], true))
    (hok : ∀ (p r k c : Int) (n : Nat) (q : Nat → Nat → Int), code ⟨p, r, k, c, n, q⟩ = 0 → rngB n q = true → ∀ s, res ⟨p, r, k, c, n, q⟩ = s →
      (nil = true → s.n = 0 → fnK Try.prog (kc (tabOf l)) 40 (rnd [] 40 (n + 1)) f [.agg [I p, I r, I k, I c, .vi .u8 27 n q]] done = some (.tup [.agg [I s.p, I s.r, I s.m, I s.c, .nilsl], I 0], [], true)) ∧
      ((nil = true → s.n ≠ 0) → Gives (.tup [.agg [I s.p, I s.r, I s.m, I s.c, .sl 0 0 s.n s.n], I 0]) s.n s.q (fnK Try.prog (kc (tabOf l)) 40 (rnd [] 40 (n + 1)) f [.agg [I p, I r, I k, I c, .vi .u8 27 n q]] done))) :
    CEntOk (f, g) := by
  intro vs a h hv
  obtain ⟨x, s, rfl, hs, rfl⟩ := hg vs a h
  obtain ⟨p, r, k, c, z, y, rfl, hy, rfl⟩ := sch_eq hs
  obtain ⟨n, q⟩ := y
  have hw := weak_cons (weak_sch (p := p) (r := r) (k := k) (c := c) hy) weak_nil
  have tr {v : AV} {new new' : List KB} := told_run (l := l) (cl := []) (ml := []) (n := 40) (m := rnd [] 40 (n + 1)) (f := f) (vs := [.agg [I p, I r, I k, I c, z]]) (vs' := [.agg [I p, I r, I k, I c, .vi .u8 27 n q]]) (v := v) (new := new) (new' := new') hl none_cok none_mok rfl hw rfl hf rfl
  refine sAns_told hv (fun h0 => tr (herr p r k c n q h0) rfl rfl cleanB_nil) (fun h0 hr hnil h1 => tr ((hok p r k c n q h0 hr _ rfl).1 hnil h1) rfl rfl cleanB_nil) (fun h0 hr h1 => ?_)
  obtain ⟨q', hx, hq⟩ := (hok p r k c n q h0 hr _ rfl).2 h1
  exact tr hx (abs_ints hq) rfl (cleanB_ints _ _ _ _ _ _)

theorem ce_specTurnScheme_ok : CEntOk ce_specTurnScheme := by
  refine one_told (nil := false) (code := codeTurnScheme) (res := resTurnScheme) (l := [e_l01Is, e_l04Transposed]) (fun vs a h => by
    unfold g_turnS at h
    split at h
    · rename_i x
      simp only [Option.map_eq_some_iff] at h
      obtain ⟨s, hs, rfl⟩ := h
      exact ⟨x, s, rfl, hs, rfl⟩
    · cases h) (by simp [l01Is_ok, l04Transposed_ok]) rfl ?_ ?_
  · intro p r k c n q h0
    refine (sspecTurn p r k c n q (n + 1)).trans ?_
    unfold codeTurnScheme at h0 ⊢
    simp only at h0 ⊢
    cases hB : isB p r k c n q with
    | true => rw [hB] at h0; exact absurd rfl h0
    | false => exact bifT (show (!false) = true from rfl) _ _
  · rintro p r k c n q h0 hr s rfl
    have hB : isB p r k c n q = true := by
      unfold codeTurnScheme at h0
      simp only at h0
      cases hB : isB p r k c n q with
      | true => rfl
      | false => rw [hB] at h0; cases h0
    obtain ⟨_, h2, h3, h4, h5, _⟩ := isB_sizes hB
    have e := (sspecTurn p r k c n q (n + 1)).trans (bifF (by rw [hB]; rfl) _ _)
    rw [e]
    have := specTurn_run p r k c n q h5 h2 h3 h4 hr (n + 1) 0
    rw [show 0 + n + 1 = n + 1 by omega] at this
    exact ⟨fun h => Bool.noConfusion h, fun _ => this⟩

theorem ce_implTurnScheme_ok : CEntOk ce_implTurnScheme := by
  refine one_told (nil := true) (code := codeTurnScheme) (res := resTurnScheme) (l := [e_IsScheme, e_turnedForm]) (fun vs a h => by
    unfold g_turnS at h
    split at h
    · rename_i x
      simp only [Option.map_eq_some_iff] at h
      obtain ⟨s, hs, rfl⟩ := h
      exact ⟨x, s, rfl, hs, rfl⟩
    · cases h) (by simp [IsScheme_ok, turnedForm_ok]) rfl ?_ ?_
  · intro p r k c n q h0
    refine (simplTurn p r k c n q (n + 1)).trans ?_
    unfold codeTurnScheme at h0 ⊢
    simp only at h0 ⊢
    cases hB : isB p r k c n q with
    | true => rw [hB] at h0; exact absurd rfl h0
    | false => exact bifT (show (!false) = true from rfl) _ _
  · rintro p r k c n q h0 hr s rfl
    have hB : isB p r k c n q = true := by
      unfold codeTurnScheme at h0
      simp only at h0
      cases hB : isB p r k c n q with
      | true => rfl
      | false => rw [hB] at h0; cases h0
    obtain ⟨_, h2, h3, h4, h5, _⟩ := isB_sizes hB
    have e := (simplTurn p r k c n q (n + 1)).trans (bifF (by rw [hB]; rfl) _ _)
    rw [e]
    have := implTurn_a p r k c n q h5 h2 h3 h4 hr (n + 1) 0
    rw [show 0 + n + 1 = n + 1 by omega] at this
    exact ⟨fun _ => this.1, fun h => this.2 (h rfl)⟩
theorem mTurnScheme_fact {x : Sch} (h : codeTurnScheme x = 0) : (resTurnScheme x).n ≤ 1048576 := by
  unfold codeTurnScheme at h
  cases hB : isB x.p x.r x.m x.c x.n x.q with
  | false => rw [hB] at h; cases h
  | true =>
    obtain ⟨_, _, _, _, h5, _⟩ := isB_sizes hB
    show x.n ≤ 1048576
    omega

theorem ce_specTransposeScheme_ok : CEntOk ce_specTransposeScheme := by
  refine one_told (nil := false) (code := codeTransposeScheme) (res := resTransposeScheme) (l := [e_l01Is, e_l04Transposed]) (fun vs a h => by
    unfold g_flipS at h
    split at h
    · rename_i x
      simp only [Option.map_eq_some_iff] at h
      obtain ⟨s, hs, rfl⟩ := h
      exact ⟨x, s, rfl, hs, rfl⟩
    · cases h) (by simp [l01Is_ok, l04Transposed_ok]) rfl ?_ ?_
  · intro p r k c n q h0
    refine (sspecFlip p r k c n q (n + 1)).trans ?_
    unfold codeTransposeScheme at h0 ⊢
    simp only at h0 ⊢
    cases hB : isB p r k c n q with
    | true => rw [hB] at h0; exact absurd rfl h0
    | false => exact bifT (show (!false) = true from rfl) _ _
  · rintro p r k c n q h0 hr s rfl
    have hB : isB p r k c n q = true := by
      unfold codeTransposeScheme at h0
      simp only at h0
      cases hB : isB p r k c n q with
      | true => rfl
      | false => rw [hB] at h0; cases h0
    obtain ⟨_, h2, h3, h4, h5, _⟩ := isB_sizes hB
    have e := (sspecFlip p r k c n q (n + 1)).trans (bifF (by rw [hB]; rfl) _ _)
    rw [e]
    have := specFlip_run p r k c n q h5 h2 h3 h4 hr (n + 1) 0
    rw [show 0 + n + 1 = n + 1 by omega] at this
    exact ⟨fun h => Bool.noConfusion h, fun _ => this⟩

theorem ce_implTransposeScheme_ok : CEntOk ce_implTransposeScheme := by
  refine one_told (nil := true) (code := codeTransposeScheme) (res := resTransposeScheme) (l := [e_IsScheme, e_turnedForm]) (fun vs a h => by
    unfold g_flipS at h
    split at h
    · rename_i x
      simp only [Option.map_eq_some_iff] at h
      obtain ⟨s, hs, rfl⟩ := h
      exact ⟨x, s, rfl, hs, rfl⟩
    · cases h) (by simp [IsScheme_ok, turnedForm_ok]) rfl ?_ ?_
  · intro p r k c n q h0
    refine (simplFlip p r k c n q (n + 1)).trans ?_
    unfold codeTransposeScheme at h0 ⊢
    simp only at h0 ⊢
    cases hB : isB p r k c n q with
    | true => rw [hB] at h0; exact absurd rfl h0
    | false => exact bifT (show (!false) = true from rfl) _ _
  · rintro p r k c n q h0 hr s rfl
    have hB : isB p r k c n q = true := by
      unfold codeTransposeScheme at h0
      simp only at h0
      cases hB : isB p r k c n q with
      | true => rfl
      | false => rw [hB] at h0; cases h0
    obtain ⟨_, h2, h3, h4, h5, _⟩ := isB_sizes hB
    have e := (simplFlip p r k c n q (n + 1)).trans (bifF (by rw [hB]; rfl) _ _)
    rw [e]
    have := implFlip_a p r k c n q h5 h2 h3 h4 hr (n + 1) 0
    rw [show 0 + n + 1 = n + 1 by omega] at this
    exact ⟨fun _ => this.1, fun h => this.2 (h rfl)⟩
theorem mTransposeScheme_fact {x : Sch} (h : codeTransposeScheme x = 0) : (resTransposeScheme x).n ≤ 1048576 := by
  unfold codeTransposeScheme at h
  cases hB : isB x.p x.r x.m x.c x.n x.q with
  | false => rw [hB] at h; cases h
  | true =>
    obtain ⟨_, _, _, _, h5, _⟩ := isB_sizes hB
    show x.n ≤ 1048576
    omega
end Go.Proofs.Ytpjhlkidebcllaa.Fn
