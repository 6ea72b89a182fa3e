/- The abstract machine: comparing values; arithmetic. -/
import Derived.Test.YtjdciikfbinchaaAbs4
import Derived.DeepKeys
namespace Go.Proofs.Ytjdciikfbinchaa.Abs
open Go

/-- two cells of one kind -/
def Pair : LK → Value → Value → Prop
  | .int, u, v => ∃ k a b, u = .int k a ∧ v = .int k b
  | .bool, u, v => ∃ a b, u = .bool a ∧ v = .bool b
  | .str, u, v => ∃ a b, u = .string a ∧ v = .string b
def eqV : Value → Value → Bool
  | .int _ a, .int _ b => a == b
  | .bool a, .bool b => a == b
  | .string a, .string b => a.toList == b.toList
  | _, _ => false
def Pairs : List LK → List Value → List Value → Prop
  | [], [], [] => True
  | l :: ls, u :: us, v :: vs => Pair l u v ∧ Pairs ls us vs
  | _, _, _ => False
def eqVs : List Value → List Value → Bool
  | u :: us, v :: vs => eqV u v && eqVs us vs
  | _, _ => true

theorem Pairs.split : ∀ (l l' : List LK) (us vs : List Value), Pairs (l ++ l') us vs →
    Pairs l (us.take l.length) (vs.take l.length) ∧ Pairs l' (us.drop l.length) (vs.drop l.length) ∧ eqVs us vs = (eqVs (us.take l.length) (vs.take l.length) && eqVs (us.drop l.length) (vs.drop l.length))
  | [], l', us, vs, h => ⟨by simp [Pairs], by simpa using h, by simp [eqVs]⟩
  | k :: l, l', [], vs, h => by cases vs <;> simp [Pairs] at h
  | k :: l, l', u :: us, [], h => by simp [Pairs] at h
  | k :: l, l', u :: us, v :: vs, h => by
    obtain ⟨h1, h2⟩ := h
    obtain ⟨a, b, c⟩ := Pairs.split l l' us vs h2
    exact ⟨⟨h1, a⟩, b, by simp only [List.length_cons, List.take_succ_cons, List.drop_succ_cons, eqVs, c, Bool.and_assoc]⟩

theorem Pairs.len : ∀ (l : List LK) (us vs : List Value), Pairs l us vs → us.length = l.length ∧ vs.length = l.length
  | [], [], [], _ => ⟨rfl, rfl⟩
  | [], [], v :: vs, h => by simp [Pairs] at h
  | [], u :: us, vs, h => by simp [Pairs] at h
  | k :: l, [], vs, h => by cases vs <;> simp [Pairs] at h
  | k :: l, u :: us, [], h => by simp [Pairs] at h
  | k :: l, u :: us, v :: vs, h => by
    obtain ⟨a, b⟩ := Pairs.len l us vs h.2
    exact ⟨by simp [a], by simp [b]⟩

/-- how a value of a type stands in its cells -/
def Formed (P : Program) (t : Nat) (x : Value) : Prop := if agg? (tyOf P t) = true then ∃ c, x = .agg c else x.oneCell' = true

theorem cells_one {x : Value} (h : x.oneCell' = true) : x.cells = #[x] := by cases x <;> first | rfl | (simp [Value.oneCell'] at h; done)

section
variable {P : Program}

theorem part_formed {t : Nat} {i : TypeInfo} {d : TypeDesc} (hi : P.info? t = some i) (hd : P.underlying t = some d) {c : Array Value} {off : Nat} {l : List LK} (hl : i.size = l.length)
    (h1 : agg? (tyOf P t) = false → l.length = 1) (hp : ∀ u, c[off]? = some u → agg? (tyOf P t) = false → u.oneCell' = true) (hin : off + i.size ≤ c.size) (w : World) :
    ∃ u, (part t c off).run P w = .ok u w ∧ Formed P t u ∧ u.cells.toList = (c.toList.drop off).take l.length := by
  cases ha : agg? (tyOf P t) with
  | true =>
    refine ⟨.agg (c.extract off (off + i.size)), run_part hi hd (by rw [if_pos ha]), by unfold Formed; rw [if_pos ha]; exact ⟨_, rfl⟩, ?_⟩
    show (c.extract off (off + i.size)).toList = _
    rw [Array.toList_extract, ← hl]
    simp
  | false =>
    have hone := h1 ha
    have hlt : off < c.size := by omega
    have hu : c[off]? = some c[off] := by simp [hlt]
    have ho := hp _ hu ha
    refine ⟨c[off], run_part hi hd (by rw [ha]; simp [hlt]), by unfold Formed; rw [ha]; exact ho, ?_⟩
    rw [cells_one ho, hone]
    have : off < c.toList.length := by simpa using hlt
    rw [List.drop_eq_getElem_cons this]
    simp

theorem leaves_info : ∀ {d t : Nat} {l : List LK}, leavesT P d t = some l → ∃ k, P.underlying t = some k ∧ (agg? (tyOf P t) = false → l.length = 1)
  | 0, t, l, h => by simp [leavesT] at h
  | d + 1, t, l, h => by
    unfold leavesT at h
    rw [agg_eq]
    cases hu : P.underlying t with
    | none => simp [hu] at h
    | some k =>
      rw [hu] at h
      refine ⟨k, rfl, fun ha => ?_⟩
      cases k <;> simp at h ha <;> (subst h; rfl)

theorem Pair.one {l : LK} {u v : Value} (h : Pair l u v) : u.oneCell' = true ∧ v.oneCell' = true := by
  cases l with
  | int => obtain ⟨k, a, b, rfl, rfl⟩ := h; exact ⟨rfl, rfl⟩
  | bool => obtain ⟨a, b, rfl, rfl⟩ := h; exact ⟨rfl, rfl⟩
  | str => obtain ⟨a, b, rfl, rfl⟩ := h; exact ⟨rfl, rfl⟩

theorem Pairs.ones : ∀ (l : List LK) (us vs : List Value), Pairs l us vs → (∀ (j : Nat) u, us[j]? = some u → u.oneCell' = true) ∧ (∀ (j : Nat) u, vs[j]? = some u → u.oneCell' = true)
  | [], [], [], _ => ⟨fun j u h => by simp at h, fun j u h => by simp at h⟩
  | [], [], v :: vs, h => by simp [Pairs] at h
  | [], u :: us, vs, h => by simp [Pairs] at h
  | k :: l, [], vs, h => by cases vs <;> simp [Pairs] at h
  | k :: l, u :: us, [], h => by simp [Pairs] at h
  | k :: l, u :: us, v :: vs, h => by
    obtain ⟨a, b⟩ := Pairs.ones l us vs h.2
    obtain ⟨c, d⟩ := h.1.one
    refine ⟨fun j x hx => ?_, fun j x hx => ?_⟩
    · cases j with
      | zero => simp at hx; subst hx; exact c
      | succ j => exact a j x (by simpa using hx)
    · cases j with
      | zero => simp at hx; subst hx; exact d
      | succ j => exact b j x (by simpa using hx)

/-- '==' at a type whose values are compared cell by cell -/
theorem equalIn_run : ∀ (d : Nat) (t : Nat) (l : List LK), leavesT P d t = some l → ∀ (D : Nat) (w : World) (x y : Value), d ≤ D → Formed P t x → Formed P t y → Pairs l x.cells.toList y.cells.toList →
    (Op.equalIn D t x y).run P w = .ok (eqVs x.cells.toList y.cells.toList) w := by
  intro d
  induction d with
  | zero => intro t l h; simp [leavesT] at h
  | succ d ih =>
    intro t l h D w x y hD fx fy hp
    obtain ⟨D, rfl⟩ : ∃ n, D = n + 1 := ⟨D - 1, by omega⟩
    unfold leavesT at h
    cases hu : P.underlying t with
    | none => simp [hu] at h
    | some k =>
      rw [hu] at h
      have hag := agg_eq (P := P) (t := t)
      rw [hu] at hag
      unfold Formed at fx fy
      rw [hag] at fx fy
      cases k <;> simp at h
      case int k =>
        subst h
        simp at fx fy
        rw [cells_one fx, cells_one fy] at hp ⊢
        obtain ⟨⟨k', a, b, rfl, rfl⟩, _⟩ := hp
        rw [run_equalIn_int w D t k' k a b hu]
        simp [eqVs, eqV]
      case bool =>
        subst h
        simp at fx fy
        rw [cells_one fx, cells_one fy] at hp ⊢
        obtain ⟨⟨a, b, rfl, rfl⟩, _⟩ := hp
        rw [run_equalIn_bool' w D t a b hu]
        simp [eqVs, eqV]
      case string =>
        subst h
        simp at fx fy
        rw [cells_one fx, cells_one fy] at hp ⊢
        obtain ⟨⟨a, b, rfl, rfl⟩, _⟩ := hp
        rw [run_equalIn_string w D t a b hu]
        simp [eqVs, eqV]
      case array n e =>
        simp at fx fy
        obtain ⟨xs, rfl⟩ := fx
        obtain ⟨ys, rfl⟩ := fy
        replace hp : Pairs l xs.toList ys.toList := hp
        show _ = Result.ok (eqVs xs.toList ys.toList) w
        cases hl : leavesT P d e with
        | none => simp [hl] at h
        | some le =>
          cases hi : P.info? e with
          | none => simp [hl, hi] at h
          | some i =>
            simp [hl, hi] at h
            obtain ⟨hsz, rfl⟩ := h
            obtain ⟨de, hde, h1⟩ := leaves_info hl
            rw [run_equalIn_array w D xs ys hu hi]
            have hco : P.cellsOf e = le.length := by unfold Program.cellsOf; rw [hi]; exact hsz
            rw [hco]
            have key : ∀ (m s : Nat), s + m = n → Pairs (List.replicate m le).flatten (xs.toList.drop (s * le.length)) (ys.toList.drop (s * le.length)) →
                (Op.eqItems D e le.length xs ys (List.range' s m)).run P w = .ok (eqVs (xs.toList.drop (s * le.length)) (ys.toList.drop (s * le.length))) w := by
              intro m
              induction m with
              | zero =>
                intro s hs hpp
                obtain ⟨a, b⟩ := Pairs.len _ _ _ hpp
                simp only [List.replicate_zero, List.flatten_nil, List.length_nil, List.length_eq_zero_iff] at a b
                rw [a, b]
                simp [Op.eqItems, eqVs]
              | succ m ihm =>
                intro s hs hpp
                rw [List.replicate_succ, List.flatten_cons] at hpp
                obtain ⟨p1, p2, p3⟩ := Pairs.split _ _ _ _ hpp
                obtain ⟨o1, o2⟩ := Pairs.ones _ _ _ p1
                obtain ⟨l1, l2⟩ := Pairs.len _ _ _ p1
                have hx : s * le.length + i.size ≤ xs.size := by
                  rw [List.length_take, List.length_drop] at l1
                  have : xs.toList.length = xs.size := rfl
                  rw [hsz]
                  rcases Nat.eq_zero_or_pos le.length with hz | hz
                  · rw [hz]; simp
                  · omega
                have hy : s * le.length + i.size ≤ ys.size := by
                  rw [List.length_take, List.length_drop] at l2
                  have : ys.toList.length = ys.size := rfl
                  rw [hsz]
                  rcases Nat.eq_zero_or_pos le.length with hz | hz
                  · rw [hz]; simp
                  · omega
                obtain ⟨a, ra, fa, ca⟩ := part_formed hi hde hsz h1 (c := xs) (off := s * le.length) (fun u hu' ha => by
                  have h1' := h1 ha
                  refine o1 0 u ?_
                  rw [List.getElem?_take, if_pos (by omega), List.getElem?_drop]
                  simpa using hu') hx w
                obtain ⟨b, rb, fb, cb⟩ := part_formed hi hde hsz h1 (c := ys) (off := s * le.length) (fun u hu' ha => by
                  have h1' := h1 ha
                  refine o2 0 u ?_
                  rw [List.getElem?_take, if_pos (by omega), List.getElem?_drop]
                  simpa using hu') hy w
                have he := ih e le hl D w a b (by omega) fa fb (by rw [ca, cb]; exact p1)
                have hn := ihm (s + 1) (by omega) (by
                  have : (s + 1) * le.length = s * le.length + le.length := Nat.succ_mul _ _
                  rw [this, ← List.drop_drop, ← List.drop_drop]
                  exact p2)
                rw [List.range'_succ]
                simp only [Op.eqItems, Sem.run_bind, ra, rb, he, Result.andThen_ok, ca, cb]
                rw [p3]
                cases hq : eqVs ((xs.toList.drop (s * le.length)).take le.length) ((ys.toList.drop (s * le.length)).take le.length) with
                | false => simp
                | true =>
                  simp only [Bool.not_true, Bool.false_eq_true, if_false, Bool.true_and]
                  rw [hn]
                  have : (s + 1) * le.length = s * le.length + le.length := Nat.succ_mul _ _
                  rw [this, ← List.drop_drop, ← List.drop_drop]
            have := key n 0 (by omega) (by simpa using hp)
            rw [List.range_eq_range']
            simpa using this
      case struct fs =>
        simp at fx fy
        obtain ⟨xs, rfl⟩ := fx
        obtain ⟨ys, rfl⟩ := fy
        replace hp : Pairs l xs.toList ys.toList := hp
        show _ = Result.ok (eqVs xs.toList ys.toList) w
        obtain ⟨hst, h⟩ := h
        have hfo : P.fieldsOf t = fs := by simp [Program.fieldsOf, hu]
        rw [run_equalIn_struct w D t xs ys (by rw [hfo]; exact hu) hst, hfo]
        have key : ∀ (gs : List Field) (l : List LK) (s : Nat), leavesF P (leavesT P d) gs s = some l → Pairs l (xs.toList.drop s) (ys.toList.drop s) →
            (Op.eqFields D xs ys gs).run P w = .ok (eqVs (xs.toList.drop s) (ys.toList.drop s)) w := by
          intro gs
          induction gs with
          | nil =>
            intro l s hl hpp
            simp [leavesF] at hl
            subst hl
            obtain ⟨a, b⟩ := Pairs.len _ _ _ hpp
            simp only [List.length_nil, List.length_eq_zero_iff] at a b
            rw [a, b]
            simp [Op.eqFields, eqVs]
          | cons f gs ihg =>
            intro l s hl hpp
            simp only [leavesF] at hl
            cases hlf : leavesT P d f.type with
            | none => simp [hlf] at hl
            | some le =>
              cases hi : P.info? f.type with
              | none => simp [hlf, hi] at hl
              | some i =>
                simp only [hlf, hi] at hl
                split at hl
                · rename_i hc
                  obtain ⟨hoff, hname, hsz⟩ := hc
                  simp only [Option.map_eq_some_iff] at hl
                  obtain ⟨lr, hlr, rfl⟩ := hl
                  obtain ⟨de, hde, h1⟩ := leaves_info hlf
                  obtain ⟨p1, p2, p3⟩ := Pairs.split _ _ _ _ hpp
                  obtain ⟨o1, o2⟩ := Pairs.ones _ _ _ p1
                  obtain ⟨l1, l2⟩ := Pairs.len _ _ _ p1
                  rw [← hoff] at l1 l2 p1 p2 p3 o1 o2
                  by_cases hz0 : le.length = 0
                  · -- a field without cells
                    have ha : agg? (tyOf P f.type) = true := by
                      cases hq : agg? (tyOf P f.type) with
                      | true => rfl
                      | false => have := h1 hq; omega
                    have hsz0 : i.size = 0 := by omega
                    have ra : (part f.type xs f.offset).run P w = .ok (.agg (xs.extract f.offset (f.offset + i.size))) w := run_part hi hde (by rw [if_pos ha])
                    have rb : (part f.type ys f.offset).run P w = .ok (.agg (ys.extract f.offset (f.offset + i.size))) w := run_part hi hde (by rw [if_pos ha])
                    have ea : (Value.agg (xs.extract f.offset (f.offset + i.size))).cells.toList = [] := by show (xs.extract f.offset (f.offset + i.size)).toList = []; rw [hsz0]; simp
                    have eb : (Value.agg (ys.extract f.offset (f.offset + i.size))).cells.toList = [] := by show (ys.extract f.offset (f.offset + i.size)).toList = []; rw [hsz0]; simp
                    have hle : le = [] := List.eq_nil_of_length_eq_zero hz0
                    have he := ih f.type le hlf D w (.agg (xs.extract f.offset (f.offset + i.size))) (.agg (ys.extract f.offset (f.offset + i.size))) (by omega) (by unfold Formed; rw [if_pos ha]; exact ⟨_, rfl⟩) (by unfold Formed; rw [if_pos ha]; exact ⟨_, rfl⟩) (by rw [ea, eb, hle]; trivial)
                    rw [ea, eb] at he
                    have hn := ihg lr (s + le.length) hlr (by rw [hz0, Nat.add_zero, ← hoff]; rw [hz0] at p2; simpa using p2)
                    simp only [Op.eqFields, hname, ne_eq, not_false_eq_true, if_true, Sem.run_bind, ra, rb, he, Result.andThen_ok, eqVs, Bool.not_true, Bool.false_eq_true, if_false]
                    rw [hn, hz0, Nat.add_zero]
                  · have hx : f.offset + i.size ≤ xs.size := by
                      rw [List.length_take, List.length_drop] at l1
                      have : xs.toList.length = xs.size := rfl
                      omega
                    have hy : f.offset + i.size ≤ ys.size := by
                      rw [List.length_take, List.length_drop] at l2
                      have : ys.toList.length = ys.size := rfl
                      omega
                    obtain ⟨a, ra, fa, ca⟩ := part_formed hi hde hsz h1 (c := xs) (off := f.offset) (fun u hu' ha => by
                      have h1' := h1 ha
                      refine o1 0 u ?_
                      rw [List.getElem?_take, if_pos (by omega), List.getElem?_drop]
                      simpa using hu') hx w
                    obtain ⟨b, rb, fb, cb⟩ := part_formed hi hde hsz h1 (c := ys) (off := f.offset) (fun u hu' ha => by
                      have h1' := h1 ha
                      refine o2 0 u ?_
                      rw [List.getElem?_take, if_pos (by omega), List.getElem?_drop]
                      simpa using hu') hy w
                    have he := ih f.type le hlf D w a b (by omega) fa fb (by rw [ca, cb]; exact p1)
                    have hn := ihg lr (s + le.length) hlr (by rw [← hoff, ← List.drop_drop, ← List.drop_drop]; exact p2)
                    simp only [Op.eqFields, hname, ne_eq, not_false_eq_true, if_true, Sem.run_bind, ra, rb, he, Result.andThen_ok, ca, cb]
                    rw [← hoff, p3]
                    cases hq : eqVs ((xs.toList.drop f.offset).take le.length) ((ys.toList.drop f.offset).take le.length) with
                    | false => simp
                    | true =>
                      simp only [Bool.not_true, Bool.false_eq_true, if_false, Bool.true_and]
                      rw [hn, ← hoff, ← List.drop_drop, ← List.drop_drop]
                · cases hl
        have := key fs.toList l 0 h (by simpa using hp)
        simpa using this
end
end Go.Proofs.Ytjdciikfbinchaa.Abs
