/- Loops that put one product behind the others in each round; functions of one scheme. -/
import Derived.Test.YthbmlioknnhleaaFg
import Derived.Test.YthbmlioknnhleaaDk
namespace Go.Proofs.Ythbmlioknnhleaa.Fn
open Go Go.Proofs.Ythbmlioknnhleaa.Abs
set_option linter.unusedSimpArgs false
/-- a loop that puts one product behind the others in each round -/
theorem map_loop {F : Nat → Int → Nat → (Nat → Nat → Int) → R} {n : Nat} {v : Nat → AV} {g : Nat → Nat → Int}
    (hend : ∀ m qh, F (m + 1) (n : Int) n qh = some (v n, [⟨tProduct, 27, .ints .u8 27 n qh⟩], true))
    (hstep : ∀ i m qh, i < n → F (m + 1) (i : Int) i qh = F m ((i + 1 : Nat) : Int) (i + 1) (fun a c => bif decide (a < i) then qh a c else g i c)) :
    ∀ (d i m : Nat) (qh : Nat → Nat → Int), i + d = n → (∀ a c, a < i → c < 27 → g a c = qh a c) → Gives (v n) n g (F (m + d + 1) (i : Int) i qh)
  | 0, i, m, qh, h, hq => by
    obtain rfl : i = n := by omega
    rw [Nat.add_zero, hend]
    exact ⟨qh, rfl, hq⟩
  | d + 1, i, m, qh, h, hq => by
    rw [show m + (d + 1) + 1 = (m + d + 1) + 1 by omega, hstep i _ qh (by omega)]
    refine map_loop hend hstep d (i + 1) m _ (by omega) fun a c ha hc => ?_
    by_cases h' : a < i
    · simp only [h', decide_true, cond_true]; exact hq a c h' hc
    · obtain rfl : a = i := by omega
      simp only [Nat.lt_irrefl, decide_false, cond_false]
/-- functions of one scheme: told -/
theorem one_told {f : Nat} {nil : Bool} {code : Sch → Int} {res : Sch → Sch} {l : List Ent} {g : List AV → Option Ans} (hg : ∀ vs a, g vs = some a → ∃ x s, vs = [x] ∧ sch x = some s ∧ a = sAns nil (rngB s.n s.q) (code s) (res s)) (hl : ∀ e ∈ l, EntOk e) (hf : tabOf l [] f = none)
    (herr : ∀ (p r k c : Int) (n : Nat) (q : Nat → Nat → Int), code ⟨p, r, k, c, n, q⟩ ≠ 0 → fnK Try.prog (kc (tabOf l)) 40 (rnd [] 40 (n + 1)) f [.agg [I p, I r, I k, I c, .vi .u8 27 n q]] done = some (.tup [.agg [I 0, I 0, I 0, I 0, .nilsl], I (code ⟨p, r, k, c, n, q⟩)], [], true))
    (hok : ∀ (p r k c : Int) (n : Nat) (q : Nat → Nat → Int), code ⟨p, r, k, c, n, q⟩ = 0 → rngB n q = true → ∀ s, res ⟨p, r, k, c, n, q⟩ = s →
      (nil = true → s.n = 0 → fnK Try.prog (kc (tabOf l)) 40 (rnd [] 40 (n + 1)) f [.agg [I p, I r, I k, I c, .vi .u8 27 n q]] done = some (.tup [.agg [I s.p, I s.r, I s.m, I s.c, .nilsl], I 0], [], true)) ∧
      ((nil = true → s.n ≠ 0) → Gives (.tup [.agg [I s.p, I s.r, I s.m, I s.c, .sl 0 0 s.n s.n], I 0]) s.n s.q (fnK Try.prog (kc (tabOf l)) 40 (rnd [] 40 (n + 1)) f [.agg [I p, I r, I k, I c, .vi .u8 27 n q]] done))) :
    CEntOk (f, g) := by
  intro vs a h hv
  obtain ⟨x, s, rfl, hs, rfl⟩ := hg vs a h
  obtain ⟨p, r, k, c, z, y, rfl, hy, rfl⟩ := sch_eq hs
  obtain ⟨n, q⟩ := y
  have hw := weak_cons (weak_sch (p := p) (r := r) (k := k) (c := c) hy) weak_nil
  have tr {v : AV} {new new' : List KB} := told_run (l := l) (cl := []) (ml := []) (n := 40) (m := rnd [] 40 (n + 1)) (f := f) (vs := [.agg [I p, I r, I k, I c, z]]) (vs' := [.agg [I p, I r, I k, I c, .vi .u8 27 n q]]) (v := v) (new := new) (new' := new') hl none_cok none_mok rfl hw rfl hf rfl
  refine sAns_told hv (fun h0 => tr (herr p r k c n q h0) rfl rfl cleanB_nil) (fun h0 hr hnil h1 => tr ((hok p r k c n q h0 hr _ rfl).1 hnil h1) rfl rfl cleanB_nil) (fun h0 hr h1 => ?_)
  obtain ⟨q', hx, hq⟩ := (hok p r k c n q h0 hr _ rfl).2 h1
  exact tr hx (abs_ints hq) rfl (cleanB_ints _ _ _ _ _ _)

end Go.Proofs.Ythbmlioknnhleaa.Fn
