/- What is told of the equations that do not hold is so; the laws of CountWrong and IsCorrect. -/
import Derived.Test.YtjdciikfbinchaaFg
import Derived.Test.YtjdciikfbinchaaFc
import Derived.Test.YtjdciikfbinchaaDwr
import Derived.Test.YtjdciikfbinchaaEwr
import Derived.Test.YtjdciikfbinchaaElwr
namespace Go.Proofs.Ytjdciikfbinchaa.Fn
open Go Go.Proofs.Ytjdciikfbinchaa.Abs
set_option maxRecDepth 100000
set_option linter.unusedVariables false
set_option linter.unusedSimpArgs false
/-- of a block's rows only their number is told -/
theorem Tells.blur {f : Nat} {vs : List AV} {v : AV} {e : Nat} {rows : List (List AV)} (h : Tells Try.prog f vs v [⟨e, 1, rows⟩]) : Tells Try.prog f vs v [⟨e, 1, rows.map fun _ => [.undef]⟩] := by
  classical
  obtain ⟨R, c, hR, hr⟩ := h
  refine ⟨fun g vs1 hp1 => if g = f ∧ vs1 = vs ∧ hp1 = [] then some (v, [⟨e, 1, rows.map fun _ => [.undef]⟩], c) else none, c, ?_, by simp⟩
  intro g vs1 hp1 v1 hp' c1 h1 hL
  dsimp only at h1
  split at h1
  · rename_i hg
    obtain ⟨rfl, rfl, rfl⟩ := hg
    cases h1
    obtain ⟨hfn, hc⟩ := hR _ _ [] v _ c hr hL
    refine ⟨hfn, fun M ρ β lo w xs hreal hl hx => (hc M ρ β lo w xs hreal hl hx).mono fun en w' ⟨u, he, M', ρ', hM, hE, hR', hv, hA⟩ => ?_⟩
    have hb1 : ∀ (k : Nat) (b : Blk), ([⟨e, 1, rows⟩] : List Blk)[k]? = some b → k = 0 ∧ b = ⟨e, 1, rows⟩ := fun k b hb => by
      cases k with
      | zero => simp at hb; exact ⟨rfl, hb.symm⟩
      | succ k => simp at hb
    have hb2 : ∀ (k : Nat) (b : Blk), ([⟨e, 1, rows.map fun _ => [.undef]⟩] : List Blk)[k]? = some b → k = 0 ∧ b = ⟨e, 1, rows.map fun _ => [.undef]⟩ := fun k b hb => by
      cases k with
      | zero => simp at hb; exact ⟨rfl, hb.symm⟩
      | succ k => simp at hb
    have E : Ext ρ' [⟨e, 1, rows⟩] ρ' [⟨e, 1, rows.map fun _ => [.undef]⟩] := fun k b l hb hl => by
      obtain ⟨rfl, rfl⟩ := hb1 k b hb
      exact ⟨_, l, rfl, hl, rfl, by simp, fun _ => rfl⟩
    refine ⟨u, he, M', ρ', hM, fun k b l hb => by simp at hb, ⟨hR'.mem, fun k b hb => ?_, hR'.inj, fun k l hl => by have := hR'.dom k l hl; simpa using this, fun d g cs hd hlk => ?_, hR'.vlt, hR'.vinj, hR'.vdis⟩, hv.mono (SubM.refl _) E, hA⟩
    · obtain ⟨rfl, rfl⟩ := hb2 k b hb
      obtain ⟨l, cs, hl, hbl⟩ := hR'.blk 0 ⟨e, 1, rows⟩ rfl
      refine ⟨l, cs, hl, ⟨hbl.free, hbl.at_, hbl.size, hbl.pos, by simpa using hbl.room, fun row hrow => ?_, hbl.one, fun i row j x u hi hj hu => ?_⟩⟩
      · simp only [List.mem_map] at hrow
        obtain ⟨_, _, rfl⟩ := hrow
        rfl
      · simp only [List.getElem?_map, Option.map_eq_some_iff] at hi
        obtain ⟨r0, _, rfl⟩ := hi
        cases j with
        | zero => simp at hj; subst hj; exact .undef _
        | succ j => simp at hj
    · obtain ⟨cs', e', hva⟩ := hR'.var d g cs hd hlk
      exact ⟨cs', e', { hva with cells := hva.cells.mono (SubM.refl _) E }⟩
  · cases h1
theorem blur_abs (e n : Nat) (f : Nat → List AV) : absH [blurK e n] = [⟨e, 1, (KR.fn n f).list.map fun _ => [.undef]⟩] := by
  simp only [blurK, absH, List.map_cons, List.map_nil, KB.abs, KR.list, List.map_map]
  rfl
theorem blur_clean (e n : Nat) : cleanB (absH [blurK e n]) := by
  intro b hb row hrow
  simp only [blurK, absH, List.map_cons, List.map_nil, KB.abs, KR.list, List.mem_singleton] at hb
  subst hb
  simp only [List.mem_map] at hrow
  obtain ⟨_, _, rfl⟩ := hrow
  rfl
/-! three loops, one in the other -/
section
variable {σ : Type} {F1 : Nat → Int → σ → R} {F2 : Nat → Nat → Int → Int → σ → R} {F3 : Nat → Nat → Nat → Int → Int → Int → σ → R} {X Y Z N : Nat} {fin : σ → R} {step : Nat → Nat → Nat → σ → σ} {Inv : Nat → σ → Prop}
variable (hY : Y < N) (hZ : Z < N)
variable (h1E : ∀ m s, Inv (X * Y * Z) s → F1 (m + 1) (X : Int) s = fin s) (h1S : ∀ a m s, a < X → F1 (m + 1) (a : Int) s = F2 m N (a : Int) 0 s)
variable (h2E : ∀ a m1 m s, a < X → F2 m1 (m + 1) (a : Int) (Y : Int) s = F1 m1 ((a + 1 : Nat) : Int) s) (h2S : ∀ a b m1 m s, a < X → b < Y → F2 m1 (m + 1) (a : Int) (b : Int) s = F3 m1 m N (a : Int) (b : Int) 0 s)
variable (h3E : ∀ a b m1 m2 m s, a < X → b < Y → F3 m1 m2 (m + 1) (a : Int) (b : Int) (Z : Int) s = F2 m1 m2 (a : Int) ((b + 1 : Nat) : Int) s)
variable (h3S : ∀ a b d m1 m2 m s, a < X → b < Y → d < Z → Inv ((a * Y + b) * Z + d) s → F3 m1 m2 (m + 1) (a : Int) (b : Int) (d : Int) s = F3 m1 m2 m (a : Int) (b : Int) ((d + 1 : Nat) : Int) (step a b d s))
variable (hI : ∀ a b d s, a < X → b < Y → d < Z → Inv ((a * Y + b) * Z + d) s → Inv ((a * Y + b) * Z + (d + 1)) (step a b d s))
include h3E h3S hI in
theorem loop3 (a b : Nat) (ha : a < X) (hb : b < Y) (m1 m2 : Nat) : ∀ (e d m : Nat) (s : σ), d + e = Z → Inv ((a * Y + b) * Z + d) s → ∃ s', F3 m1 m2 (m + e + 1) (a : Int) (b : Int) (d : Int) s = F2 m1 m2 (a : Int) ((b + 1 : Nat) : Int) s' ∧ Inv ((a * Y + (b + 1)) * Z) s'
  | 0, d, m, s, h, hi => by
    obtain rfl : d = Z := by omega
    rw [Nat.add_zero, h3E a b m1 m2 m s ha hb]
    refine ⟨s, rfl, ?_⟩
    rw [show a * Y + (b + 1) = (a * Y + b) + 1 by omega, Nat.succ_mul]
    exact hi
  | e + 1, d, m, s, h, hi => by
    rw [show m + (e + 1) + 1 = (m + e + 1) + 1 by omega, h3S a b d m1 m2 _ s ha hb (by omega) hi]
    exact loop3 a b ha hb m1 m2 e (d + 1) m _ (by omega) (hI a b d s ha hb (by omega) hi)
include h3E h3S hI h2E h2S hZ in
theorem loop2 (a : Nat) (ha : a < X) (m1 : Nat) : ∀ (e b m : Nat) (s : σ), b + e = Y → Inv ((a * Y + b) * Z) s → ∃ s', F2 m1 (m + e + 1) (a : Int) (b : Int) s = F1 m1 ((a + 1 : Nat) : Int) s' ∧ Inv ((a + 1) * Y * Z) s'
  | 0, b, m, s, h, hi => by
    obtain rfl : b = Y := by omega
    rw [Nat.add_zero, h2E a m1 m s ha]
    refine ⟨s, rfl, ?_⟩
    rw [Nat.succ_mul]
    exact hi
  | e + 1, b, m, s, h, hi => by
    obtain ⟨M, hM⟩ : ∃ M, N = M + Z + 1 := ⟨N - Z - 1, by omega⟩
    obtain ⟨s', h1, h2⟩ := loop3 h3E h3S hI a b ha (by omega) m1 (m + e + 1) Z 0 M s (by omega) hi
    rw [show m + (e + 1) + 1 = (m + e + 1) + 1 by omega, h2S a b m1 _ s ha (by omega), hM]
    have h1' : F3 m1 (m + e + 1) (M + Z + 1) (a : Int) (b : Int) 0 s = F2 m1 (m + e + 1) (a : Int) ((b + 1 : Nat) : Int) s' := h1
    rw [h1']
    exact loop2 a ha m1 e (b + 1) m s' (by omega) h2
include h3E h3S hI h2E h2S hZ hY h1E h1S in
theorem loop1 : ∀ (e a m : Nat) (s : σ), a + e = X → Inv (a * Y * Z) s → ∃ s', F1 (m + e + 1) (a : Int) s = fin s' ∧ Inv (X * Y * Z) s'
  | 0, a, m, s, h, hi => by
    obtain rfl : a = X := by omega
    rw [Nat.add_zero, h1E m s hi]
    exact ⟨s, rfl, hi⟩
  | e + 1, a, m, s, h, hi => by
    obtain ⟨M, hM⟩ : ∃ M, N = M + Y + 1 := ⟨N - Y - 1, by omega⟩
    obtain ⟨s', h1, h2⟩ := loop2 hZ h2E h2S h3E h3S hI a (by omega) (m + e + 1) Y 0 M s (by omega) hi
    rw [show m + (e + 1) + 1 = (m + e + 1) + 1 by omega, h1S a _ s (by omega), hM]
    have h1' : F2 (m + e + 1) (M + Y + 1) (a : Int) 0 s = F1 (m + e + 1) ((a + 1 : Nat) : Int) s' := h1
    rw [h1']
    exact loop1 e (a + 1) m s' (by omega) h2
end
theorem keepL_succ (b : Nat → Bool) (t : Nat) : (keepL b 0 (t + 1)).length = (keepL b 0 t).length + (bif b t then 1 else 0) := by
  have key : ∀ (d i : Nat), (keepL b i (d + 1)).length = (keepL b i d).length + (bif b (i + d) then 1 else 0) := by
    intro d
    induction d with
    | zero => intro i; simp only [keepL, Nat.add_zero]; cases b i <;> rfl
    | succ d ih =>
      intro i
      have e1 : keepL b i (d + 1 + 1) = bif b i then i :: keepL b (i + 1) (d + 1) else keepL b (i + 1) (d + 1) := rfl
      have e2 : keepL b i (d + 1) = bif b i then i :: keepL b (i + 1) d else keepL b (i + 1) d := rfl
      rw [e1, e2]
      have := ih (i + 1)
      rw [show i + 1 + d = i + (d + 1) by omega] at this
      cases b i <;> simp only [cond_true, cond_false, List.length_cons, this]
      omega
  have := key t 0
  rwa [Nat.zero_add] at this
theorem places_of {a b d Y Z : Nat} (hb : b < Y) (hd : d < Z) : ((a * Y + b) * Z + d) / Z / Y = a ∧ ((a * Y + b) * Z + d) / Z % Y = b ∧ ((a * Y + b) * Z + d) % Z = d := by
  have e1 : ((a * Y + b) * Z + d) / Z = a * Y + b := by rw [Nat.add_comm, Nat.add_mul_div_right _ _ (by omega), Nat.div_eq_of_lt hd, Nat.zero_add]
  have e2 : ((a * Y + b) * Z + d) % Z = d := by rw [Nat.add_comm, Nat.add_mul_mod_self_right, Nat.mod_eq_of_lt hd]
  have e3 : (a * Y + b) / Y = a := by rw [Nat.add_comm, Nat.add_mul_div_right _ _ (by omega), Nat.div_eq_of_lt hb, Nat.zero_add]
  have e4 : (a * Y + b) % Y = b := by rw [Nat.add_comm, Nat.add_mul_mod_self_right, Nat.mod_eq_of_lt hb]
  exact ⟨by rw [e1, e3], by rw [e1, e4], e2⟩
section
variable (p r k c : Int) (n : Nat) (q : Nat → Nat → Int) (hp : p ≠ 0) (hn : n ≤ 30) (hr : 1 ≤ r ∧ r ≤ 3) (hk : 1 ≤ k ∧ k ≤ 3) (hc : 1 ≤ c ∧ c ≤ 3)
theorem wrT_at {a b d : Nat} (hb : b < (k * c).toNat) (hd : d < (r * c).toNat) : wrT p r k c n q ((a * (k * c).toNat + b) * (r * c).toNat + d) = wrB p k c n q a b d := by
  obtain ⟨h1, h2, h3⟩ := places_of (a := a) hb hd
  unfold wrT
  rw [h1, h2, h3]
abbrev cntT (t : Nat) : Nat := (keepL (wrT p r k c n q) 0 t).length
include hp hn hr hk hc
theorem wrong_run (N : Nat) (hN : 20 ≤ N) : ∃ f, Lwrong_3 p r k c n q N N 0 0 (fun a => []) = some (.sl 0 0 (cntW p r k c n q) (cntW p r k c n q), [⟨tInts, 1, .fn (cntW p r k c n q) f⟩], true) := by
  obtain ⟨a1, a2, a3⟩ := mul9 hr hk
  obtain ⟨b1, b2, b3⟩ := mul9 hk hc
  obtain ⟨c1, c2, c3⟩ := mul9 hr hc
  have eX : ((r * k).toNat : Int) = r * k := by omega
  have eY : ((k * c).toNat : Int) = k * c := by omega
  have eZ : ((r * c).toNat : Int) = r * c := by omega
  obtain ⟨s', h1, h2⟩ := loop1 (σ := Nat × (Nat → List AV)) (F1 := fun m x s => Lwrong_3 p r k c n q N m s.1 x s.2) (F2 := fun m1 m x y s => Lwrong_6 p r k c n q N m1 m s.1 x y s.2) (F3 := fun m1 m2 m x y z s => Lwrong_9 p r k c n q N m1 m2 m s.1 x y z s.2) (X := (r * k).toNat) (Y := (k * c).toNat) (Z := (r * c).toNat) (N := N)
    (fin := fun s => some (.sl 0 0 s.1 s.1, [⟨tInts, 1, .fn s.1 s.2⟩], true)) (step := fun a b d s => bif wrB p k c n q a b d then (s.1 + 1, fun t => selL (decide (t < s.1)) (s.2 t) [.vs 1 [[I a], [I b], [I d]]]) else s)
    (Inv := fun t s => s.1 = cntT p r k c n q t ∧ ∀ i, i < s.1 → (s.2 i).all bareV = true) (by omega) (by omega)
    (fun m s hi => by
      have hall : List.all (List.map s.2 (List.range s.1)) (fun row => List.all row bareV) = true := by
        rw [List.all_eq_true]
        intro row hrow
        obtain ⟨i, hi', rfl⟩ := List.mem_map.1 hrow
        exact hi.2 i (List.mem_range.1 hi')
      show Lwrong_3 p r k c n q N (m + 1) s.1 ((r * k).toNat : Int) s.2 = _
      rw [rwrong_3, a3, eX, bifF (decide_eq_false (Int.lt_irrefl _)), chkb hall]
      rfl)
    (fun a m s ha => by
      show Lwrong_3 p r k c n q N (m + 1) s.1 (a : Int) s.2 = Lwrong_6 p r k c n q N m N s.1 (a : Int) 0 s.2
      rw [rwrong_3, a3, bifT (decide_eq_true (by omega))])
    (fun a m1 m s ha => by
      show Lwrong_6 p r k c n q N m1 (m + 1) s.1 (a : Int) ((k * c).toNat : Int) s.2 = Lwrong_3 p r k c n q N m1 s.1 ((a + 1 : Nat) : Int) s.2
      rw [rwrong_6, b3, eY, bifF (decide_eq_false (Int.lt_irrefl _)), W_succ (by omega)])
    (fun a b m1 m s ha hb => by
      show Lwrong_6 p r k c n q N m1 (m + 1) s.1 (a : Int) (b : Int) s.2 = Lwrong_9 p r k c n q N m1 m N s.1 (a : Int) (b : Int) 0 s.2
      rw [rwrong_6, b3, bifT (decide_eq_true (by omega))])
    (fun a b m1 m2 m s ha hb => by
      show Lwrong_9 p r k c n q N m1 m2 (m + 1) s.1 (a : Int) (b : Int) ((r * c).toNat : Int) s.2 = Lwrong_6 p r k c n q N m1 m2 s.1 (a : Int) ((b + 1 : Nat) : Int) s.2
      rw [rwrong_9, c3, eZ, bifF (decide_eq_false (Int.lt_irrefl _)), W_succ (by omega)])
    (fun a b d m1 m2 m s ha hb hd hi => by
      have hs : s.1 ≤ 1000 := by
        have := keepL_len (wrT p r k c n q) ((a * (k * c).toNat + b) * (r * c).toNat + d) 0
        have e0 : s.1 = (keepL (wrT p r k c n q) 0 ((a * (k * c).toNat + b) * (r * c).toNat + d)).length := hi.1
        have e1 : a * (k * c).toNat ≤ 9 * 9 := Nat.mul_le_mul (by omega) (by omega)
        have e2 : (a * (k * c).toNat + b) * (r * c).toNat ≤ 90 * 9 := Nat.mul_le_mul (by omega) (by omega)
        omega
      have g1 : (!decide (p = 0) && (decide (n ≤ 30) && (inR (a : Int) 9 && (inR (b : Int) 9 && inR (d : Int) 9)))) = true := by
        unfold inR
        simp only [Bool.and_eq_true, Bool.not_eq_true', decide_eq_true_eq, decide_eq_false_iff_not]
        omega
      have g2 : (!decide (k = 0) && !decide (c = 0)) = true := by
        simp only [Bool.and_eq_true, Bool.not_eq_true', decide_eq_false_iff_not]
        omega
      show Lwrong_9 p r k c n q N m1 m2 (m + 1) s.1 (a : Int) (b : Int) (d : Int) s.2 = _
      rw [rwrong_9, c3, bifT (decide_eq_true (by omega)), chkb g1, chkb g2, W_succ (by omega)]
      cases hw : wrB p k c n q a b d with
      | true =>
        have hw' : (!decide (leftB p n q a b d = wantB k c a b d)) = true := hw
        rw [bifT hw', chkbeq, chkd (by omega), chkd rfl]
        rfl
      | false =>
        have hw' : (!decide (leftB p n q a b d = wantB k c a b d)) = false := hw
        rw [bifF hw']
        rfl)
    (fun a b d s ha hb hd hi => by
      obtain ⟨i1, i2⟩ := hi
      have e0 := keepL_succ (wrT p r k c n q) ((a * (k * c).toNat + b) * (r * c).toNat + d)
      rw [wrT_at p r k c n q hb hd] at e0
      cases hw : wrB p k c n q a b d with
      | true =>
        rw [hw] at e0
        simp only [cond_true] at e0 ⊢
        refine ⟨by rw [i1]; exact e0.symm, fun i hi => ?_⟩
        by_cases h' : i < s.1
        · simp only [h', decide_true, selL_eq, cond_true]; exact i2 i h'
        · simp only [h', decide_false, selL_eq, cond_false]; rfl
      | false =>
        rw [hw] at e0
        simp only [cond_false, Nat.add_zero] at e0 ⊢
        exact ⟨by rw [i1]; exact e0.symm, i2⟩)
    (r * k).toNat 0 (N - (r * k).toNat - 1) (0, fun a => []) (by omega) ⟨by rw [Nat.zero_mul, Nat.zero_mul]; rfl, fun i hi => by cases hi⟩
  rw [show N - (r * k).toNat - 1 + (r * k).toNat + 1 = N by omega] at h1
  refine ⟨s'.2, ?_⟩
  have h2' : s'.1 = cntW p r k c n q := h2.1
  rw [← h2']
  exact h1
theorem l01Wrong_run (N : Nat) (hN : 20 ≤ N) : ∃ q', Ll01Wrong_4 p r k c n q N N 0 0 0 (nthR []) = some (.tup [.sl 0 0 (three (cntW p r k c n q)) (three (cntW p r k c n q)), I (cntW p r k c n q : Nat)], [⟨tInt, 1, .ints .i64 1 (three (cntW p r k c n q)) q'⟩], true) := by
  obtain ⟨a1, a2, a3⟩ := mul9 hr hk
  obtain ⟨b1, b2, b3⟩ := mul9 hk hc
  obtain ⟨c1, c2, c3⟩ := mul9 hr hc
  have eX : ((r * k).toNat : Int) = r * k := by omega
  have eY : ((k * c).toNat : Int) = k * c := by omega
  have eZ : ((r * c).toNat : Int) = r * c := by omega
  obtain ⟨s', h1, h2⟩ := loop1 (σ := Nat × (Nat → Nat → Int)) (F1 := fun m x s => Ll01Wrong_4 p r k c n q N m (three s.1) (s.1 : Nat) x s.2) (F2 := fun m1 m x y s => Ll01Wrong_7 p r k c n q N m1 m (three s.1) (s.1 : Nat) x y s.2) (F3 := fun m1 m2 m x y z s => Ll01Wrong_10 p r k c n q N m1 m2 m (three s.1) (s.1 : Nat) x y z s.2) (X := (r * k).toNat) (Y := (k * c).toNat) (Z := (r * c).toNat) (N := N)
    (fin := fun s => some (.tup [.sl 0 0 (three s.1) (three s.1), I (s.1 : Nat)], [⟨tInt, 1, .ints .i64 1 (three s.1) s.2⟩], true)) (step := fun a b d s => bif wrB p k c n q a b d then (bif decide (s.1 = 0) then (s.1 + 1, fun t c1 => bif decide (t < 0) then s.2 t c1 else nthR [[(a : Int)], [(b : Int)], [(d : Int)]] (t - 0) c1) else (s.1 + 1, s.2)) else s)
    (Inv := fun t s => s.1 = cntT p r k c n q t) (by omega) (by omega)
    (fun m s hi => by
      show Ll01Wrong_4 p r k c n q N (m + 1) (three s.1) (s.1 : Nat) ((r * k).toNat : Int) s.2 = _
      rw [rl01Wrong_4, a3, eX, bifF (decide_eq_false (Int.lt_irrefl _))]
      rfl)
    (fun a m s ha => by
      show Ll01Wrong_4 p r k c n q N (m + 1) (three s.1) (s.1 : Nat) (a : Int) s.2 = Ll01Wrong_7 p r k c n q N m N (three s.1) (s.1 : Nat) (a : Int) 0 s.2
      rw [rl01Wrong_4, a3, bifT (decide_eq_true (by omega))])
    (fun a m1 m s ha => by
      show Ll01Wrong_7 p r k c n q N m1 (m + 1) (three s.1) (s.1 : Nat) (a : Int) ((k * c).toNat : Int) s.2 = Ll01Wrong_4 p r k c n q N m1 (three s.1) (s.1 : Nat) ((a + 1 : Nat) : Int) s.2
      rw [rl01Wrong_7, b3, eY, bifF (decide_eq_false (Int.lt_irrefl _)), W_succ (by omega)])
    (fun a b m1 m s ha hb => by
      show Ll01Wrong_7 p r k c n q N m1 (m + 1) (three s.1) (s.1 : Nat) (a : Int) (b : Int) s.2 = Ll01Wrong_10 p r k c n q N m1 m N (three s.1) (s.1 : Nat) (a : Int) (b : Int) 0 s.2
      rw [rl01Wrong_7, b3, bifT (decide_eq_true (by omega))])
    (fun a b m1 m2 m s ha hb => by
      show Ll01Wrong_10 p r k c n q N m1 m2 (m + 1) (three s.1) (s.1 : Nat) (a : Int) (b : Int) ((r * c).toNat : Int) s.2 = Ll01Wrong_7 p r k c n q N m1 m2 (three s.1) (s.1 : Nat) (a : Int) ((b + 1 : Nat) : Int) s.2
      rw [rl01Wrong_10, c3, eZ, bifF (decide_eq_false (Int.lt_irrefl _)), W_succ (by omega)])
    (fun a b d m1 m2 m s ha hb hd hi => by
      have hs : s.1 ≤ 1000 := by
        have := keepL_len (wrT p r k c n q) ((a * (k * c).toNat + b) * (r * c).toNat + d) 0
        have e0 : s.1 = (keepL (wrT p r k c n q) 0 ((a * (k * c).toNat + b) * (r * c).toNat + d)).length := hi
        have e1 : a * (k * c).toNat ≤ 9 * 9 := Nat.mul_le_mul (by omega) (by omega)
        have e2 : (a * (k * c).toNat + b) * (r * c).toNat ≤ 90 * 9 := Nat.mul_le_mul (by omega) (by omega)
        omega
      have g1 : (!decide (p = 0) && (decide (n ≤ 30) && (inR (a : Int) 9 && (inR (b : Int) 9 && inR (d : Int) 9)))) = true := by
        unfold inR
        simp only [Bool.and_eq_true, Bool.not_eq_true', decide_eq_true_eq, decide_eq_false_iff_not]
        omega
      have g2 : (!decide (k = 0) && !decide (c = 0)) = true := by
        simp only [Bool.and_eq_true, Bool.not_eq_true', decide_eq_false_iff_not]
        omega
      obtain ⟨s1, s2⟩ := s
      show Ll01Wrong_10 p r k c n q N m1 m2 (m + 1) (three s1) (s1 : Nat) (a : Int) (b : Int) (d : Int) s2 = _
      have hs' : s1 ≤ 1000 := hs
      rw [rl01Wrong_10, c3, bifT (decide_eq_true (by omega)), chkb g1, chkb g2, W_succ (i := d) (by omega), W_succ (i := s1) (by omega)]
      cases hw : wrB p k c n q a b d with
      | true =>
        have hw' : decide (leftB p n q a b d = wantB k c a b d) = false := by
          have : (!decide (leftB p n q a b d = wantB k c a b d)) = true := hw
          simpa using this
        rw [bifF hw']
        by_cases h0 : s1 = 0
        · subst h0
          rw [bifT (decide_eq_true (show ((0 : Nat) : Int) = 0 from rfl)), chkbeq, chkd (show three 0 + 3 ≤ 4294967296 by decide), chkd rfl]
          rfl
        · have e3 : three (s1 + 1) = three s1 := by unfold three; simp [h0]
          rw [bifF (decide_eq_false (show ¬ ((s1 : Nat) : Int) = 0 by omega))]
          simp only [cond_true, h0, decide_false, cond_false]
          rw [e3]
      | false =>
        have hw' : decide (leftB p n q a b d = wantB k c a b d) = true := by
          have : (!decide (leftB p n q a b d = wantB k c a b d)) = false := hw
          simpa using this
        rw [bifT hw']
        rfl)
    (fun a b d s ha hb hd hi => by
      have e0 := keepL_succ (wrT p r k c n q) ((a * (k * c).toNat + b) * (r * c).toNat + d)
      rw [wrT_at p r k c n q hb hd] at e0
      have hi' : s.1 = (keepL (wrT p r k c n q) 0 ((a * (k * c).toNat + b) * (r * c).toNat + d)).length := hi
      cases hw : wrB p k c n q a b d with
      | true =>
        rw [hw] at e0
        simp only [cond_true] at e0 ⊢
        by_cases h0 : s.1 = 0
        · simp only [h0, decide_true, cond_true]
          rw [h0] at hi'
          rw [← hi'] at e0
          exact e0.symm
        · simp only [h0, decide_false, cond_false]
          rw [hi']
          exact e0.symm
      | false =>
        rw [hw] at e0
        simp only [cond_false, Nat.add_zero] at e0 ⊢
        rw [hi']
        exact e0.symm)
    (r * k).toNat 0 (N - (r * k).toNat - 1) (0, nthR []) (by omega) (by rw [Nat.zero_mul, Nat.zero_mul]; rfl)
  rw [show N - (r * k).toNat - 1 + (r * k).toNat + 1 = N by omega] at h1
  refine ⟨s'.2, ?_⟩
  have h2' : s'.1 = cntW p r k c n q := h2
  rw [← h2']
  exact h1
end
theorem wrG_iff {p r k c : Int} {n : Nat} (h : wrG p r k c n = true) : p ≠ 0 ∧ n ≤ 30 ∧ (1 ≤ r ∧ r ≤ 3) ∧ (1 ≤ k ∧ k ≤ 3) ∧ (1 ≤ c ∧ c ≤ 3) := by
  unfold wrG sizeB at h
  simp only [Bool.and_eq_true, Bool.not_eq_true', decide_eq_true_eq, decide_eq_false_iff_not] at h
  exact ⟨h.1, h.2.1, h.2.2.1, h.2.2.2.1, h.2.2.2.2⟩
theorem wrG_of {p r k c : Int} {n : Nat} {q : Nat → Nat → Int} (h : isB p r k c n q = true) : wrG p r k c n = true := by
  obtain ⟨h1, h2, h3, h4, h5, _⟩ := isB_sizes h
  unfold wrG sizeB
  simp only [Bool.and_eq_true, Bool.not_eq_true', decide_eq_true_eq, decide_eq_false_iff_not]
  exact ⟨by omega, h5, h2, h3, h4⟩
theorem wrong_ok : EntOk e_wrong := by
  intro vs v new h
  unfold e_wrong at h
  simp only at h
  split at h
  · rename_i p r k c x
    simp only [Option.map_eq_some_iff, Prod.mk.injEq] at h
    obtain ⟨y, hy, hg, rfl, rfl⟩ := h
    obtain ⟨h1, h2, h3, h4, h5⟩ := wrG_iff hg
    obtain ⟨f, hf⟩ := wrong_run p r k c y.1 y.2 h1 h2 h3 h4 h5 20 (by omega)
    have ht := fnK_sem mixed plain (tabOf_ok (l := [e_leftSide, e_rightSide]) (by simp [leftSide_ok, rightSide_ok])) (KMTOk.none _) rfl rfl ((swrong p r k c y.1 y.2 20).trans hf)
    exact ⟨[.agg [I p, I r, I k, I c, .vi .u8 27 y.1 y.2]], _, _, rfl, weak_cons (weak_sch hy) weak_nil, rfl, Tells.blur ht, .inl ⟨rfl, blur_abs _ _ _, rfl, by rw [← blur_abs]; exact blur_clean _ _⟩⟩
  · cases h
theorem l01Wrong_ok : EntOk e_l01Wrong := by
  intro vs v new h
  unfold e_l01Wrong at h
  simp only at h
  split at h
  · rename_i p r k c x
    simp only [Option.map_eq_some_iff, Prod.mk.injEq] at h
    obtain ⟨y, hy, hg, rfl, rfl⟩ := h
    obtain ⟨h1, h2, h3, h4, h5⟩ := wrG_iff hg
    obtain ⟨q', hf⟩ := l01Wrong_run p r k c y.1 y.2 h1 h2 h3 h4 h5 20 (by omega)
    have ht := fnK_sem mixed plain (tabOf_ok (l := [e_l01Sum, e_l01Want]) (by simp [l01Sum_ok, l01Want_ok])) (KMTOk.none _) rfl rfl ((sl01Wrong p r k c y.1 y.2 20).trans hf)
    have hb := Tells.blur ht
    have e : absH [blurK tInt (three (cntW p r k c y.1 y.2))] = [⟨tInt, 1, (KR.ints .i64 1 (three (cntW p r k c y.1 y.2)) q').list.map fun _ => [.undef]⟩] := by
      simp only [blurK, absH, List.map_cons, List.map_nil, KB.abs, KR.list, List.map_map]
      rfl
    exact ⟨[.agg [I p, I r, I k, I c, .vi .u8 27 y.1 y.2]], _, _, rfl, weak_cons (weak_sch hy) weak_nil, rfl, hb, .inl ⟨rfl, e, rfl, by rw [← e]; exact blur_clean _ _⟩⟩
  · cases h
theorem cnt_ok {f : Nat} {l : List Ent} (hl : ∀ e ∈ l, EntOk e) (hf : tabOf l [] f = none) (h : ∀ (p r k c : Int) (n : Nat) (q : Nat → Nat → Int), fnK Try.prog (kc (tabOf l)) 40 (rnd [] 40 0) f [.agg [I p, I r, I k, I c, .vi .u8 27 n q]] done = some (.tup [I (cntV p r k c n q), I (codeIs p r k c n q)], [], true)) : EntOk (f, g_cnt) := by
  intro vs v new hv
  unfold g_cnt at hv
  simp only at hv
  split at hv
  · rename_i p r k c x
    simp only [Option.map_eq_some_iff, Prod.mk.injEq, true_and] at hv
    obtain ⟨y, hy, rfl, rfl⟩ := hv
    exact ent_run (vs' := [.agg [I p, I r, I k, I c, .vi .u8 27 y.1 y.2]]) hl rfl (weak_cons (weak_sch hy) weak_nil) rfl hf (h p r k c y.1 y.2) rfl cleanB_nil
  · cases hv
theorem cor_ok {f : Nat} {l : List Ent} (hl : ∀ e ∈ l, EntOk e) (hf : tabOf l [] f = none) (h : ∀ (p r k c : Int) (n : Nat) (q : Nat → Nat → Int), fnK Try.prog (kc (tabOf l)) 40 (rnd [] 40 0) f [.agg [I p, I r, I k, I c, .vi .u8 27 n q]] done = some (.tup [.bool (corV p r k c n q), I (codeIs p r k c n q)], [], true)) : EntOk (f, g_cor) := by
  intro vs v new hv
  unfold g_cor at hv
  simp only at hv
  split at hv
  · rename_i p r k c x
    simp only [Option.map_eq_some_iff, Prod.mk.injEq, true_and] at hv
    obtain ⟨y, hy, rfl, rfl⟩ := hv
    exact ent_run (vs' := [.agg [I p, I r, I k, I c, .vi .u8 27 y.1 y.2]]) hl rfl (weak_cons (weak_sch hy) weak_nil) rfl hf (h p r k c y.1 y.2) rfl cleanB_nil
  · cases hv
theorem cor_eq (m : Nat) : decide ((m : Int) = 0) = decide (m = 0) := by
  by_cases h : m = 0
  · simp [h]
  · have : ¬ (m : Int) = 0 := by omega
    simp [h]
theorem specCountWrong_ok : EntOk e_specCountWrong := cnt_ok (l := [e_l01Is, e_l01Wrong]) (by simp [l01Is_ok, l01Wrong_ok]) rfl fun p r k c n q => (sspecCnt p r k c n q 0).trans (by
  unfold cntV codeIs
  cases hB : isB p r k c n q with
  | false => rfl
  | true => rw [bifF (show (!true) = false from rfl), chkb (wrG_of hB)]; rfl)
theorem implCountWrong_ok : EntOk e_implCountWrong := cnt_ok (l := [e_IsScheme, e_wrong]) (by simp [IsScheme_ok, wrong_ok]) rfl fun p r k c n q => (simplCnt p r k c n q 0).trans (by
  unfold cntV codeIs
  cases hB : isB p r k c n q with
  | false => rfl
  | true => rw [bifF (show (!true) = false from rfl), chkb (wrG_of hB), chkbeq]; rfl)
theorem specIsCorrect_ok : EntOk e_specIsCorrect := cor_ok (l := [e_l01Is, e_l01Wrong]) (by simp [l01Is_ok, l01Wrong_ok]) rfl fun p r k c n q => (sspecCor p r k c n q 0).trans (by
  unfold corV codeIs
  cases hB : isB p r k c n q with
  | false => rfl
  | true => rw [bifF (show (!true) = false from rfl), chkb (wrG_of hB), cor_eq]; rfl)
theorem implIsCorrect_ok : EntOk e_implIsCorrect := cor_ok (l := [e_IsScheme, e_wrong]) (by simp [IsScheme_ok, wrong_ok]) rfl fun p r k c n q => (simplCor p r k c n q 0).trans (by
  unfold corV codeIs
  cases hB : isB p r k c n q with
  | false => rfl
  | true => rw [bifF (show (!true) = false from rfl), chkb (wrG_of hB), chkbeq, cor_eq]; rfl)
theorem exactCountWrong_law (p r k c : Int) (n : Nat) (q : Nat → Nat → Int) (hn : n ≤ maxLen) (hq : ∀ i j, i < n → j < 27 → inB (q i j)) : LawOf 9 [.agg [I p, I r, I k, I c, .vi .u8 27 n q]] := by
  by_cases hc : (1048576 : Int) - n < 0
  · exact ⟨[e_toScheme, e_eqScheme, e_specCountWrong, e_implCountWrong], [], [], 40, rnd [] 40 0, _, (by simp [toScheme_ok, eqScheme_ok, specCountWrong_ok, implCountWrong_ok]), none_cok, none_mok, rfl, rfl, (slawCnt p r k c n q 0).trans (by
      rw [left_of hn]
      simp [hc]; rfl)⟩
  · have h1 : n ≤ 1048576 := by omega
    exact ⟨[e_toScheme, e_eqScheme, e_specCountWrong, e_implCountWrong], [], [], 40, rnd [] 40 0, _, (by simp [toScheme_ok, eqScheme_ok, specCountWrong_ok, implCountWrong_ok]), none_cok, none_mok, rfl, rfl, (slawCnt p r k c n q 0).trans (by
      rw [left_of hn]
      simp [hc, h1, chk, eqS_rfl]; rfl)⟩
theorem exactIsCorrect_law (p r k c : Int) (n : Nat) (q : Nat → Nat → Int) (hn : n ≤ maxLen) (hq : ∀ i j, i < n → j < 27 → inB (q i j)) : LawOf 10 [.agg [I p, I r, I k, I c, .vi .u8 27 n q]] := by
  by_cases hc : (1048576 : Int) - n < 0
  · exact ⟨[e_toScheme, e_eqScheme, e_specIsCorrect, e_implIsCorrect], [], [], 40, rnd [] 40 0, _, (by simp [toScheme_ok, eqScheme_ok, specIsCorrect_ok, implIsCorrect_ok]), none_cok, none_mok, rfl, rfl, (slawCor p r k c n q 0).trans (by
      rw [left_of hn]
      simp [hc]; rfl)⟩
  · have h1 : n ≤ 1048576 := by omega
    exact ⟨[e_toScheme, e_eqScheme, e_specIsCorrect, e_implIsCorrect], [], [], 40, rnd [] 40 0, _, (by simp [toScheme_ok, eqScheme_ok, specIsCorrect_ok, implIsCorrect_ok]), none_cok, none_mok, rfl, rfl, (slawCor p r k c n q 0).trans (by
      rw [left_of hn]
      simp [hc, h1, chk, eqS_rfl]; rfl)⟩
end Go.Proofs.Ytjdciikfbinchaa.Fn
