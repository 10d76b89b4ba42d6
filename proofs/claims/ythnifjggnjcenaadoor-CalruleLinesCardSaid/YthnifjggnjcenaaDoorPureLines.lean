/-
  The law CalruleLines in plain Lean: the told text has a line for each rule, with the rule's times in order. No condition.
-/
import Derived.Test.YthnifjggnjcenaaDoorBackQ
import Derived.Test.YthnifjggnjcenaaDoorAllx32
namespace Go.Proofs.YthnifjggnjcenaaDoor.Pl
open Go.RowKit Go.Proofs.YthnifjggnjcenaaDoor.All Go.Proofs.YthnifjggnjcenaaDoorW.PrintWords
set_option linter.unusedVariables false
set_option linter.unusedSimpArgs false

theorem rd46_is (l : List S46) (i : Nat) (h : i < l.length) : rd_T46 l (i : Int) = l[i] := by
  show l.getD (i : Int).toNat z46 = l[i]
  rw [Int.toNat_natCast, List.getD_eq_getElem?_getD, List.getElem?_eq_getElem h]
  rfl
/-- How many times a rule's line has. -/
def tmN (r : S33) : Int := wrap64 (1 + (mn r.f1 1))
theorem tm_zero {r : S33} (h : r.f1 = 0) : tmN r = 1 ∧ mn r.f1 1 = 0 := by
  unfold tmN
  rw [h]
  exact ⟨wrap_nat 1 (by omega), rfl⟩
theorem tm_pos {r : S33} (h : 1 ≤ r.f1) : tmN r = 2 ∧ mn r.f1 1 = 1 := by
  have e : mn r.f1 1 = 1 := by
    unfold mn
    split <;> omega
  unfold tmN
  rw [e]
  exact ⟨wrap_nat 2 (by omega), rfl⟩
theorem drop_at {α : Type} {L : List α} {i : Nat} {t : α} {T : List α} (hd : L.drop i = t :: T) : ∃ h : i < L.length, L[i] = t ∧ L.drop (i + 1) = T := by
  have hlt : i < L.length := by
    refine Nat.lt_of_not_le fun h => ?_
    rw [List.drop_eq_nil_of_le h] at hd
    cases hd
  rw [List.drop_eq_getElem_cons hlt, List.cons.injEq] at hd
  exact ⟨hlt, hd.1, hd.2⟩
section
variable {l : List S33} {L : List S46} (hl : l.length ≤ 16) (hL : L.length ≤ 1000000)
theorem skip_ev {f m k : Int} {i : Nat} {t : S46} {T : List S46} {v : Bool} (hL : L.length ≤ 1000000) (hd : L.drop i = t :: T) (h3 : t.f0 ≠ 3) (h2 : t.f0 ≠ 2) (h : Ev (fun q => erewhilelaw34_CalruleLines.l0 q l f m k L (L.length : Int) ((i + 1 : Nat) : Int)) v) : Ev (fun q => erewhilelaw34_CalruleLines.l0 q l f m k L (L.length : Int) (i : Int)) v := by
  obtain ⟨hlt, he, _⟩ := drop_at hd
  have er : rd_T46 L (i : Int) = t := (rd46_is L i hlt).trans he
  refine ev_succ ?_
  have c1 : (i : Int) < (L.length : Int) := by omega
  have c0 : (0 : Int) ≤ (i : Int) := by omega
  simp only [erewhilelaw34_CalruleLines.l0, if_pos c1, if_pos c0, er, if_neg h3, if_neg h2, wrap_succ i (by omega)]
  exact h
theorem feed_ev {m k : Int} {j i : Nat} {t : S46} {T : List S46} {v : Bool} (hL : L.length ≤ 1000000) (hj : j ≤ 100) (hd : L.drop i = t :: T) (h3 : t.f0 = 3) (h : Ev (fun q => erewhilelaw34_CalruleLines.l0 q l ((j + 1 : Nat) : Int) m k L (L.length : Int) ((i + 1 : Nat) : Int)) v) : Ev (fun q => erewhilelaw34_CalruleLines.l0 q l (j : Int) m k L (L.length : Int) (i : Int)) v := by
  obtain ⟨hlt, he, _⟩ := drop_at hd
  have er : rd_T46 L (i : Int) = t := (rd46_is L i hlt).trans he
  refine ev_succ ?_
  have c1 : (i : Int) < (L.length : Int) := by omega
  have c0 : (0 : Int) ≤ (i : Int) := by omega
  simp only [erewhilelaw34_CalruleLines.l0, if_pos c1, if_pos c0, er, if_pos h3, wrap_succ i (by omega), wrap_succ j (by omega)]
  exact h
theorem time_ev {f m k : Int} {i : Nat} {t : S46} {T : List S46} {v : Bool} (hd : L.drop i = t :: T) (h2 : t.f0 = 2) (h : Ev (fun q => erewhilelaw34_CalruleLines.l1 q l f m k L (L.length : Int) (i : Int) t.f0 t.f1 t.f2 t.f3) v) : Ev (fun q => erewhilelaw34_CalruleLines.l0 q l f m k L (L.length : Int) (i : Int)) v := by
  obtain ⟨hlt, he, _⟩ := drop_at hd
  have er : rd_T46 L (i : Int) = t := (rd46_is L i hlt).trans he
  refine ev_succ ?_
  have c1 : (i : Int) < (L.length : Int) := by omega
  have c0 : (0 : Int) ≤ (i : Int) := by omega
  have h3 : ¬ t.f0 = 3 := by omega
  simp only [erewhilelaw34_CalruleLines.l0, if_pos c1, if_pos c0, er, if_neg h3, if_pos h2]
  exact h
/-- The line of the rule ahead is over: on to the next one. -/
theorem move_ev {f : Int} {i p : Nat} {t : S46} {v : Bool} (hp : p < l.length) (hl : l.length ≤ 16) (h : Ev (fun q => erewhilelaw34_CalruleLines.l1 q l f 0 ((p + 1 : Nat) : Int) L (L.length : Int) (i : Int) t.f0 t.f1 t.f2 t.f3) v) : Ev (fun q => erewhilelaw34_CalruleLines.l1 q l f (tmN l[p]) (p : Int) L (L.length : Int) (i : Int) t.f0 t.f1 t.f2 t.f3) v := by
  refine ev_succ ?_
  have c1 : (p : Int) < (l.length : Int) := by omega
  have c0 : (0 : Int) ≤ (p : Int) := by omega
  have c2 : tmN l[p] = wrap64 (1 + (mn l[p].f1 1)) := rfl
  simp only [erewhilelaw34_CalruleLines.l1, if_pos c1, if_pos c0, rd33_is l p hp, ← c2, if_true, wrap_succ p (by omega)]
  exact h
/-- The one time of a line. -/
theorem one_ev {f : Int} {i j : Nat} {t : S46} {v : Bool} (hL : L.length ≤ 1000000) (hi : i < L.length) (hj : j < l.length) (hf : l[j].f1 = 0) (ht : t.f2 = l[j].f2) (h : Ev (fun q => erewhilelaw34_CalruleLines.l0 q l f (tmN l[j]) (j : Int) L (L.length : Int) ((i + 1 : Nat) : Int)) v) : Ev (fun q => erewhilelaw34_CalruleLines.l1 q l f 0 (j : Int) L (L.length : Int) (i : Int) t.f0 t.f1 t.f2 t.f3) v := by
  obtain ⟨e1, e2⟩ := tm_zero hf
  rw [e1] at h
  refine ev_succ ?_
  have c1 : (j : Int) < (l.length : Int) := by omega
  have c0 : (0 : Int) ≤ (j : Int) := by omega
  have c2 : wrap64 (1 + (mn l[j].f1 1)) = 1 := e1
  have c3 : ¬ (0 : Int) = 1 := by omega
  have c4 : ¬ (j : Int) ≥ (l.length : Int) := by omega
  have c5 : ¬ l[j].f1 > 0 := by omega
  have c6 : wrap64 ((0 : Int) + 1) = 1 := wrap_nat 1 (by omega)
  have c8 : wrap64 ((1 : Int) + 0) = 1 := wrap_nat 1 (by omega)
  have c9 : wrap64 ((1 : Int) + 1) = 2 := wrap_nat 2 (by omega)
  simp only [erewhilelaw34_CalruleLines.l1, if_pos c1, if_pos c0, rd33_is l j hj, c2, if_neg c3, if_neg c4, if_true, if_neg c5, e2, if_pos ht, c6, c8, c9, if_neg c3, wrap_succ i (by omega)]
  exact h
/-- The first time of two. -/
theorem fst_ev {f : Int} {i j : Nat} {t : S46} {v : Bool} (hL : L.length ≤ 1000000) (hi : i < L.length) (hj : j < l.length) (hf : 1 ≤ l[j].f1) (ht : t.f2 = l[j].f1) (h : Ev (fun q => erewhilelaw34_CalruleLines.l0 q l f 1 (j : Int) L (L.length : Int) ((i + 1 : Nat) : Int)) v) : Ev (fun q => erewhilelaw34_CalruleLines.l1 q l f 0 (j : Int) L (L.length : Int) (i : Int) t.f0 t.f1 t.f2 t.f3) v := by
  obtain ⟨e1, e2⟩ := tm_pos hf
  refine ev_succ ?_
  have c1 : (j : Int) < (l.length : Int) := by omega
  have c0 : (0 : Int) ≤ (j : Int) := by omega
  have c2 : wrap64 (1 + (mn l[j].f1 1)) = 2 := e1
  have c3 : ¬ (0 : Int) = 2 := by omega
  have c4 : ¬ (j : Int) ≥ (l.length : Int) := by omega
  have c5 : l[j].f1 > 0 := by omega
  have c7 : ¬ (0 : Int) = 1 := by omega
  have c6 : wrap64 ((0 : Int) + 1) = 1 := wrap_nat 1 (by omega)
  have c8 : wrap64 ((1 : Int) + 0) = 1 := wrap_nat 1 (by omega)
  have c9 : wrap64 ((1 : Int) + 1) = 2 := wrap_nat 2 (by omega)
  simp only [erewhilelaw34_CalruleLines.l1, if_pos c1, if_pos c0, rd33_is l j hj, c2, if_neg c3, if_neg c4, if_true, if_pos c5, e2, if_pos ht, if_neg c7, c6, c8, c9, if_neg c3, wrap_succ i (by omega)]
  exact h
/-- The second time of two. -/
theorem snd_ev {f : Int} {i j : Nat} {t : S46} {v : Bool} (hL : L.length ≤ 1000000) (hi : i < L.length) (hj : j < l.length) (hf : 1 ≤ l[j].f1) (ht : t.f2 = l[j].f2) (h : Ev (fun q => erewhilelaw34_CalruleLines.l0 q l f (tmN l[j]) (j : Int) L (L.length : Int) ((i + 1 : Nat) : Int)) v) : Ev (fun q => erewhilelaw34_CalruleLines.l1 q l f 1 (j : Int) L (L.length : Int) (i : Int) t.f0 t.f1 t.f2 t.f3) v := by
  obtain ⟨e1, e2⟩ := tm_pos hf
  rw [e1] at h
  refine ev_succ ?_
  have c1 : (j : Int) < (l.length : Int) := by omega
  have c0 : (0 : Int) ≤ (j : Int) := by omega
  have c2 : wrap64 (1 + (mn l[j].f1 1)) = 2 := e1
  have c3 : ¬ (1 : Int) = 2 := by omega
  have c4 : ¬ (j : Int) ≥ (l.length : Int) := by omega
  have c7 : ¬ (1 : Int) = 0 := by omega
  have c6 : wrap64 ((1 : Int) + 1) = 2 := wrap_nat 2 (by omega)
  have c8 := c6
  have c9 := c6
  simp only [erewhilelaw34_CalruleLines.l1, if_pos c1, if_pos c0, rd33_is l j hj, c2, if_neg c3, if_neg c4, if_true, e2, if_pos ht, if_neg c7, c6, c8, c9, if_neg c3, wrap_succ i (by omega)]
  exact h
/-- What stands ahead of the line of rule j. -/
def readyL (l : List S33) (j : Nat) (m k : Int) : Prop := (j = 0 ∧ m = 0 ∧ k = 0) ∨ ∃ p, ∃ h : p < l.length, j = p + 1 ∧ m = tmN l[p] ∧ k = (p : Int)
theorem start_ev {f m k : Int} {i j : Nat} {t : S46} {v : Bool} (hl : l.length ≤ 16) (hr : readyL l j m k) (h : Ev (fun q => erewhilelaw34_CalruleLines.l1 q l f 0 (j : Int) L (L.length : Int) (i : Int) t.f0 t.f1 t.f2 t.f3) v) : Ev (fun q => erewhilelaw34_CalruleLines.l1 q l f m k L (L.length : Int) (i : Int) t.f0 t.f1 t.f2 t.f3) v := by
  rcases hr with ⟨rfl, rfl, rfl⟩ | ⟨p, hp, rfl, rfl, rfl⟩
  · exact h
  · exact move_ev hp hl h
theorem line_ev {m k : Int} {i j a : Nat} {e : S46} {T : List S46} {v : Bool} (hl : l.length ≤ 16) (hL : L.length ≤ 1000000) (hj : j < l.length) (hr : rightB l[j].f0 l[j].f1 l[j].f2 = true) (he : e.f0 = 3) (hd : L.drop i = placeI (itemsT l[j]) a ++ e :: T) (hrd : readyL l j m k)
    (h : ∀ i', L.drop i' = T → Ev (fun q => erewhilelaw34_CalruleLines.l0 q l ((j + 1 : Nat) : Int) (tmN l[j]) (j : Int) L (L.length : Int) (i' : Int)) v) : Ev (fun q => erewhilelaw34_CalruleLines.l0 q l (j : Int) m k L (L.length : Int) (i : Int)) v := by
  obtain ⟨⟨x1, x2⟩, hx⟩ := rightB_times hr
  rcases items_kind hr with ⟨q, q1, ei⟩ | ⟨q, ei⟩ | ⟨q, ei⟩ | ⟨q, q1, ei⟩ <;> rw [ei] at hd <;> simp only [placeI, List.cons_append, List.nil_append] at hd
  · obtain ⟨l0, _, d0⟩ := drop_at hd
    obtain ⟨l1, _, d1⟩ := drop_at d0
    obtain ⟨l2, _, d2⟩ := drop_at d1
    obtain ⟨l3, _, d3⟩ := drop_at d2
    obtain ⟨l4, _, d4⟩ := drop_at d3
    refine skip_ev hL hd (by simp [putT]) (by simp [putT]) ?_
    refine skip_ev hL d0 (by simp [putT]) (by simp [putT]) ?_
    refine skip_ev hL d1 (by simp [putT]) (by simp [putT]) ?_
    refine time_ev d2 rfl (start_ev hl hrd (one_ev hL l3 hj q1 rfl ?_))
    exact feed_ev hL (by omega) d3 he (h _ d4)
  · have hf : 1 ≤ l[j].f1 := by omega
    obtain ⟨l0, _, d0⟩ := drop_at hd
    obtain ⟨l1, _, d1⟩ := drop_at d0
    obtain ⟨l2, _, d2⟩ := drop_at d1
    obtain ⟨l3, _, d3⟩ := drop_at d2
    obtain ⟨l4, _, d4⟩ := drop_at d3
    refine skip_ev hL hd (by simp [putT]) (by simp [putT]) ?_
    refine time_ev d0 rfl (start_ev hl hrd (fst_ev hL l1 hj hf rfl ?_))
    refine skip_ev hL d1 (by simp [putT]) (by simp [putT]) ?_
    refine time_ev d2 rfl (snd_ev hL l3 hj hf rfl ?_)
    exact feed_ev hL (by omega) d3 he (h _ d4)
  · have hf : 1 ≤ l[j].f1 := by omega
    obtain ⟨l0, _, d0⟩ := drop_at hd
    obtain ⟨l1, _, d1⟩ := drop_at d0
    obtain ⟨l2, _, d2⟩ := drop_at d1
    obtain ⟨l3, _, d3⟩ := drop_at d2
    obtain ⟨l4, _, d4⟩ := drop_at d3
    refine skip_ev hL hd (by simp [putT]) (by simp [putT]) ?_
    refine time_ev d0 rfl (start_ev hl hrd (fst_ev hL l1 hj hf rfl ?_))
    refine skip_ev hL d1 (by simp [putT]) (by simp [putT]) ?_
    refine time_ev d2 rfl (snd_ev hL l3 hj hf rfl ?_)
    exact feed_ev hL (by omega) d3 he (h _ d4)
  · obtain ⟨l0, _, d0⟩ := drop_at hd
    obtain ⟨l1, _, d1⟩ := drop_at d0
    obtain ⟨l2, _, d2⟩ := drop_at d1
    obtain ⟨l3, _, d3⟩ := drop_at d2
    refine skip_ev hL hd (by simp [putT]) (by simp [putT]) ?_
    refine skip_ev hL d0 (by simp [putT]) (by simp [putT]) ?_
    refine time_ev d1 rfl (start_ev hl hrd (one_ev hL l2 hj q1 rfl ?_))
    exact feed_ev hL (by omega) d2 he (h _ d3)
theorem lines_loop (hl : l.length ≤ 16) (hL : L.length ≤ 1000000) (hr : allR l) : ∀ (ds : List S33) (j i a : Nat) (m k : Int), l.drop j = ds → j ≤ l.length → L.drop i = toksL ds a → readyL l j m k → Ev (fun q => erewhilelaw34_CalruleLines.l0 q l (j : Int) m k L (L.length : Int) (i : Int)) true
  | [], j, i, a, m, k, hd, hj, hT, hrd => by
    have hle := List.drop_eq_nil_iff.1 hd
    obtain rfl : j = l.length := by omega
    rw [toksL] at hT
    obtain ⟨hi, _, d1⟩ := drop_at hT
    have hle2 := List.drop_eq_nil_iff.1 d1
    refine skip_ev hL hT (by simp) (by simp) ?_
    refine ev_succ ?_
    have c1 : ¬ ((i + 1 : Nat) : Int) < (L.length : Int) := by omega
    simp only [erewhilelaw34_CalruleLines.l0, if_neg c1, if_true]
    rcases hrd with ⟨h0, rfl, rfl⟩ | ⟨p, hp, h0, rfl, rfl⟩
    · have c2 : (l.length : Int) = 0 := by omega
      simp only [if_pos c2]
      exact ev_some
    · have c2 : ¬ (l.length : Int) = 0 := by omega
      have w1 : wrap64 ((l.length : Int) - 1) = (p : Int) := by
        rw [show (l.length : Int) - 1 = ((p : Nat) : Int) by omega]
        exact wrap_nat _ (by omega)
      simp only [if_neg c2, w1, beq_self_eq_true]
      exact ev_some
  | r :: ds, j, i, a, m, k, hd, hj, hT, hrd => by
    obtain ⟨hlt, he, hd'⟩ := drop_at hd
    have hrj := hr l[j] (List.getElem_mem hlt)
    rw [toksL] at hT
    subst he
    refine line_ev hl hL hlt hrj rfl hT hrd fun i' hi' => ?_
    exact lines_loop hl hL hr ds (j + 1) i' _ _ _ hd' (by omega) hi' (.inr ⟨j, hlt, rfl, rfl, rfl⟩)
end
theorem toksL_len : ∀ (l : List S33) (a : Nat), allR l → (toksL l a).length ≤ 5 * l.length + 1
  | [], a, _ => by simp [toksL]
  | r :: l, a, h => by
    have ih := toksL_len l (a + (lineT r).length) (fun x hx => h x (.tail _ hx))
    have hil : (itemsT r).length ≤ 4 := by
      rcases items_kind (h r (.head _)) with ⟨_, _, e⟩ | ⟨_, e⟩ | ⟨_, e⟩ | ⟨_, _, e⟩ <;> rw [e] <;> simp
    rw [toksL, List.length_append, placeI_len, List.length_cons, List.length_cons]
    omega
theorem lines_pure (l : List S33) : Ev (fun k => erewhilelaw34_CalruleLines.f k l) true := by
  simp only [erewhilelaw34_CalruleLines.f]
  refine Ev.bind awake_ev ?_
  simp only [if_true]
  refine ev_succ ?_
  cases hq : decide ((l.length : Int) > 40) with
  | true =>
    simp only [erewhilelaw34_CalruleLines.j0, if_true]
    exact Ev.bind awake_ev ev_some
  | false =>
    simp only [erewhilelaw34_CalruleLines.j0, Bool.false_eq_true, if_false]
    refine Ev.bind (texts_ev l) ?_
    by_cases h0 : (textS l).2 = 0
    · obtain ⟨h1, h2, h3, h4⟩ := text_back l h0
      have hs := text_small l
      simp only [if_pos h0]
      rw [h4] at hs ⊢
      refine Ev.bind (lex_ev _ (by omega)) ?_
      have hlx : lexS (ofL (l.flatMap lineT)) = (toksL l 0, 0, 0) := by
        rw [lexS_lst, lst_ofL, lex_lines l 0 h2]
        simp [outL]
      rw [hlx]
      simp only [if_true]
      have hlen := toksL_len l 0 h2
      exact lines_loop h3 (by omega) h2 l 0 0 0 0 0 rfl (by omega) rfl (.inl ⟨rfl, rfl, rfl⟩)
    · simp only [if_neg h0]
      exact ev_some
end Go.Proofs.YthnifjggnjcenaaDoor.Pl
