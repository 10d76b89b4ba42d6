/-
  The law CalruleOne in plain Lean: it tells true of any rule and any cut.
-/
import Derived.Test.YthnifjggnjcenaaDoorBackQ
import Derived.Test.YthnifjggnjcenaaDoorAllx31
namespace Go.Proofs.YthnifjggnjcenaaDoor.Pl
open Go.RowKit Go.Proofs.YthnifjggnjcenaaDoor.All Go.Proofs.YthnifjggnjcenaaDoorW.PrintWords
set_option linter.unusedVariables false
set_option linter.unusedSimpArgs false

/-- Tokens joined, cut ahead of one of them. -/
theorem join_cut : ∀ (ts : List S46) (k : Nat), 1 ≤ k → k < ts.length → joinI ts = joinI (ts.take k) ++ 32 :: joinI (ts.drop k)
  | [], k, _, h => by simp at h
  | [t], k, h1, h => by simp at h; omega
  | t :: u :: ts, 1, _, _ => rfl
  | t :: u :: ts, k + 2, _, h => by
    have ih := join_cut (u :: ts) (k + 1) (by omega) (by simp at h ⊢; omega)
    show lst t.f1 ++ 32 :: joinI (u :: ts) = (lst t.f1 ++ 32 :: joinI ((u :: ts).take (k + 1))) ++ 32 :: joinI ((u :: ts).drop (k + 1))
    rw [ih, List.append_assoc, List.cons_append, ← ih]
theorem place_at : ∀ (ts : List S46) (a k : Nat), 1 ≤ k → k < ts.length → ∃ t, (placeI ts a)[k]? = some t ∧ t.f3 = ((a + (joinI (ts.take k)).length + 1 : Nat) : Int)
  | [], a, k, _, h => by simp at h
  | [t], a, k, h1, h => by simp at h; omega
  | t :: u :: ts, a, 1, _, _ => by
    refine ⟨putT u (a + (lst t.f1).length + 1), ?_, ?_⟩
    · simp [placeI]
    · rw [List.take_succ_cons, List.take_zero, joinI]; rfl
  | t :: u :: ts, a, k + 2, _, h => by
    obtain ⟨x, e1, e2⟩ := place_at (u :: ts) (a + (lst t.f1).length + 1) (k + 1) (by omega) (by simp at h ⊢; omega)
    refine ⟨x, ?_, ?_⟩
    · rw [placeI, List.getElem?_cons_succ]; exact e1
    · rw [e2]
      show ((a + (lst t.f1).length + 1 + (joinI ((u :: ts).take (k + 1))).length + 1 : Nat) : Int) = ((a + (lst t.f1 ++ 32 :: joinI ((u :: ts).take (k + 1))).length + 1 : Nat) : Int)
      simp only [List.length_append, List.length_cons]
      omega
theorem endTok_no {e : S46} (he : e.f0 = 0) (w : ByteArray) : fitW w e = false := fitW_end (by omega)
theorem lineK_none {k : Int} {w : ByteArray} {ws : List ByteArray} {t : S46} {T : List S46} {ln fo : Int} (h : fitW w t = false) : lineK k (w :: ws) (t :: T) ln fo = .error (t, 3) := by
  rw [lineK, if_neg (by rw [h]; decide)]
theorem lineK_end {k : Int} {w : ByteArray} {ws : List ByteArray} {e : S46} (he : e.f0 = 0) {T : List S46} {ln fo : Int} : lineK k (w :: ws) (e :: T) ln fo = .error (e, 3) := lineK_none (endTok_no he w)
/-- A line cut ahead of one of its tokens. -/
theorem line_cut {r : S33} (hr : rightB r.f0 r.f1 r.f2 = true) {k : Nat} (h1 : 1 ≤ k) (hk : k < (itemsT r).length) {T : List S46} (hT : T.map stripT = ((itemsT r).take k).map stripT) {e : S46} (he : e.f0 = 0) : ∃ t T1, T ++ [e] = t :: T1 ∧ (t.f0 ≠ 3 ∧ t.f0 ≠ 0) ∧ lineS (t :: T1) = .error (e, 3) := by
  obtain ⟨⟨x1, x2⟩, hx⟩ := rightB_times hr
  rcases items_kind hr with ⟨q, q1, ei⟩ | ⟨q, ei⟩ | ⟨q, ei⟩ | ⟨q, q1, ei⟩ <;> rw [ei] at hT hk
  · have hk' : k = 1 ∨ k = 2 ∨ k = 3 := by simp at hk; omega
    rcases hk' with rfl | rfl | rfl
    · have hlen : T.length = 1 := by have := congrArg List.length hT; simpa using this
      match T, hlen, hT with
      | [t0], _, hT =>
        simp only [List.map_cons, List.map_nil, List.take_succ_cons, List.take_zero, List.cons.injEq, and_true] at hT
        refine ⟨t0, [e], rfl, by rw [(strip_f hT).1]; simp, ?_⟩
        rw [lineS, if_pos (fe hT), lineE, if_neg (by rw [endTok_no he]; decide), if_neg (by omega)]
    · have hlen : T.length = 2 := by have := congrArg List.length hT; simpa using this
      match T, hlen, hT with
      | [t0, t1], _, hT =>
        simp only [List.map_cons, List.map_nil, List.take_succ_cons, List.take_zero, List.cons.injEq, and_true] at hT
        obtain ⟨e0, e1⟩ := hT
        refine ⟨t0, [t1, e], rfl, by rw [(strip_f e0).1]; simp, ?_⟩
        rw [lineS, if_pos (fe e0), lineE, if_pos (fw e1), lineK_end he]
    · have hlen : T.length = 3 := by have := congrArg List.length hT; simpa using this
      match T, hlen, hT with
      | [t0, t1, t2], _, hT =>
        simp only [List.map_cons, List.map_nil, List.take_succ_cons, List.take_zero, List.cons.injEq, and_true] at hT
        obtain ⟨e0, e1, e2⟩ := hT
        refine ⟨t0, [t1, t2, e], rfl, by rw [(strip_f e0).1]; simp, ?_⟩
        rw [lineS, if_pos (fe e0), lineE, if_pos (fw e1), lineK_for (ff e2), lineK_end he]
  · have hk' : k = 1 ∨ k = 2 ∨ k = 3 := by simp at hk; omega
    rcases hk' with rfl | rfl | rfl
    · have hlen : T.length = 1 := by have := congrArg List.length hT; simpa using this
      match T, hlen, hT with
      | [t0], _, hT =>
        simp only [List.map_cons, List.map_nil, List.take_succ_cons, List.take_zero, List.cons.injEq, and_true] at hT
        refine ⟨t0, [e], rfl, by rw [(strip_f hT).1]; simp, ?_⟩
        rw [lineS, if_pos (fe hT), lineE, if_neg (by rw [endTok_no he]; decide), if_neg (by omega)]
    · have hlen : T.length = 2 := by have := congrArg List.length hT; simpa using this
      match T, hlen, hT with
      | [t0, t1], _, hT =>
        simp only [List.map_cons, List.map_nil, List.take_succ_cons, List.take_zero, List.cons.injEq, and_true] at hT
        obtain ⟨e0, e1⟩ := hT
        have p1 : t1.f0 = 2 := (strip_f e1).1
        have p2 : t1.f2 = r.f1 := (strip_f e1).2
        refine ⟨t0, [t1, e], rfl, by rw [(strip_f e0).1]; simp, ?_⟩
        rw [lineS, if_pos (fe e0), lineE, if_neg (by rw [notW p1]; decide), if_pos p1, if_neg (by rw [p2]; omega), lineK_end he]
    · have hlen : T.length = 3 := by have := congrArg List.length hT; simpa using this
      match T, hlen, hT with
      | [t0, t1, t2], _, hT =>
        simp only [List.map_cons, List.map_nil, List.take_succ_cons, List.take_zero, List.cons.injEq, and_true] at hT
        obtain ⟨e0, e1, e2⟩ := hT
        have p1 : t1.f0 = 2 := (strip_f e1).1
        have p2 : t1.f2 = r.f1 := (strip_f e1).2
        refine ⟨t0, [t1, t2, e], rfl, by rw [(strip_f e0).1]; simp, ?_⟩
        rw [lineS, if_pos (fe e0), lineE, if_neg (by rw [notW p1]; decide), if_pos p1, if_neg (by rw [p2]; omega), lineK_for (ff e2), lineK_end he]
  · have hk' : k = 1 ∨ k = 2 ∨ k = 3 := by simp at hk; omega
    rcases hk' with rfl | rfl | rfl
    · have hlen : T.length = 1 := by have := congrArg List.length hT; simpa using this
      match T, hlen, hT with
      | [t0], _, hT =>
        simp only [List.map_cons, List.map_nil, List.take_succ_cons, List.take_zero, List.cons.injEq, and_true] at hT
        refine ⟨t0, [e], rfl, by rw [(strip_f hT).1]; simp, ?_⟩
        rw [lineS, if_neg (by rw [(fq hT).1]; decide), if_pos (fq hT).2, lineK_end he]
    · have hlen : T.length = 2 := by have := congrArg List.length hT; simpa using this
      match T, hlen, hT with
      | [t0, t1], _, hT =>
        simp only [List.map_cons, List.map_nil, List.take_succ_cons, List.take_zero, List.cons.injEq, and_true] at hT
        obtain ⟨e0, e1⟩ := hT
        have p1 : t1.f0 = 2 := (strip_f e1).1
        have p2 : t1.f2 = r.f1 := (strip_f e1).2
        refine ⟨t0, [t1, e], rfl, by rw [(strip_f e0).1]; simp, ?_⟩
        rw [lineS, if_neg (by rw [(fq e0).1]; decide), if_pos (fq e0).2, lineK_hash p1 p2 (by omega), lineK_end he]
    · have hlen : T.length = 3 := by have := congrArg List.length hT; simpa using this
      match T, hlen, hT with
      | [t0, t1, t2], _, hT =>
        simp only [List.map_cons, List.map_nil, List.take_succ_cons, List.take_zero, List.cons.injEq, and_true] at hT
        obtain ⟨e0, e1, e2⟩ := hT
        have p1 : t1.f0 = 2 := (strip_f e1).1
        have p2 : t1.f2 = r.f1 := (strip_f e1).2
        refine ⟨t0, [t1, t2, e], rfl, by rw [(strip_f e0).1]; simp, ?_⟩
        rw [lineS, if_neg (by rw [(fq e0).1]; decide), if_pos (fq e0).2, lineK_hash p1 p2 (by omega), lineK_for (ff e2), lineK_end he]
  · have hk' : k = 1 ∨ k = 2 := by simp at hk; omega
    rcases hk' with rfl | rfl
    · have hlen : T.length = 1 := by have := congrArg List.length hT; simpa using this
      match T, hlen, hT with
      | [t0], _, hT =>
        simp only [List.map_cons, List.map_nil, List.take_succ_cons, List.take_zero, List.cons.injEq, and_true] at hT
        refine ⟨t0, [e], rfl, by rw [(strip_f hT).1]; simp, ?_⟩
        rw [lineS, if_neg (by rw [(fn hT).1]; decide), if_neg (by rw [(fn hT).2.1]; decide), if_pos (fn hT).2.2, lineK_end he]
    · have hlen : T.length = 2 := by have := congrArg List.length hT; simpa using this
      match T, hlen, hT with
      | [t0, t1], _, hT =>
        simp only [List.map_cons, List.map_nil, List.take_succ_cons, List.take_zero, List.cons.injEq, and_true] at hT
        obtain ⟨e0, e1⟩ := hT
        refine ⟨t0, [t1, e], rfl, by rw [(strip_f e0).1]; simp, ?_⟩
        rw [lineS, if_neg (by rw [(fn e0).1]; decide), if_neg (by rw [(fn e0).2.1]; decide), if_pos (fn e0).2.2, lineK_after (fa e1), lineK_end he]
theorem one_pure (a b c n : Int) (hn : (Lit.int .u8 n).wf = true) : Ev (fun k => erewhilelaw34_CalruleOne.f k a b c n) true := by
  simp only [erewhilelaw34_CalruleOne.f]
  refine Ev.bind awake_ev ?_
  simp only [if_true]
  refine Ev.bind (texts_ev [⟨a, b, c⟩]) ?_
  by_cases hr : rightB a b c = true
  · have hall : allR [⟨a, b, c⟩] := fun x hx => by rw [List.mem_singleton.1 hx]; exact hr
    have ht := text_of [⟨a, b, c⟩] hall (by simp)
    have hfl : ([⟨a, b, c⟩] : List S33).flatMap lineT = lineT ⟨a, b, c⟩ := by simp
    have hs := text_small [⟨a, b, c⟩]
    rw [ht, hfl] at hs
    rw [ht, hfl]
    simp only [if_true] at hs ⊢
    refine Ev.bind (lex_ev _ (by omega)) ?_
    have hlx : lexS (ofL (lineT ⟨a, b, c⟩)) = (toksL [⟨a, b, c⟩] 0, 0, 0) := by
      rw [lexS_lst, lst_ofL]
      have := lex_lines [⟨a, b, c⟩] 0 hall
      rw [hfl] at this
      rw [this]
      simp [outL]
    rw [hlx]
    obtain ⟨r, hrr⟩ : ∃ r : S33, r = ⟨a, b, c⟩ := ⟨_, rfl⟩
    have hr' : rightB r.f0 r.f1 r.f2 = true := by rw [hrr]; exact hr
    rw [← hrr]
    have hil : (itemsT r).length = 3 ∨ (itemsT r).length = 4 := by
      rcases items_kind hr' with ⟨_, _, e⟩ | ⟨_, e⟩ | ⟨_, e⟩ | ⟨_, _, e⟩ <;> rw [e] <;> simp
    obtain ⟨m, hm⟩ : ∃ m, (itemsT r).length = m := ⟨_, rfl⟩
    have htl : (toksL [r] 0).length = m + 2 := by rw [toksL, List.length_append, placeI_len, hm]; rfl
    have hn' : 0 ≤ n ∧ n ≤ 255 := by
      simp [Lit.wf, IntKind.min, IntKind.max, IntKind.signed, IntKind.bits] at hn
      omega
    rw [hm] at hil
    have w1 : wrap64 (((m + 2 : Nat) : Int) - 3) = ((m - 1 : Nat) : Int) := by
      rw [show ((m + 2 : Nat) : Int) - 3 = ((m - 1 : Nat) : Int) by omega]
      exact wrap_nat _ (by omega)
    have w2 : wrap64 n = ((n.toNat : Nat) : Int) := by
      rw [show n = ((n.toNat : Nat) : Int) by omega]
      exact wrap_nat _ (by omega)
    obtain ⟨q, hq⟩ : ∃ q, n.toNat % (m - 1) = q := ⟨_, rfl⟩
    have hqm : q < m - 1 := by rw [← hq]; exact Nat.mod_lt _ (by omega)
    have w3 : wrap64 (1 + Int.tmod (wrap64 n) (wrap64 (((m + 2 : Nat) : Int) - 3))) = ((q + 1 : Nat) : Int) := by
      rw [w1, w2, mod_nat, hq, show (1 : Int) + (q : Int) = ((q + 1 : Nat) : Int) by omega]
      exact wrap_nat _ (by omega)
    have c0 : ¬ ((m + 2 : Nat) : Int) < 5 := by omega
    have c1 : ¬ wrap64 (((m + 2 : Nat) : Int) - 3) = 0 := by rw [w1]; omega
    have c2 : (0 : Int) ≤ ((q + 1 : Nat) : Int) := by omega
    have c3 : ((q + 1 : Nat) : Int) < ((m + 2 : Nat) : Int) := by omega
    simp only [if_true, htl, if_neg c0, if_neg c1, w3, if_pos c2, if_pos c3]
    clear w1 w2 w3 c1
    obtain ⟨t, e1, e2⟩ := place_at (itemsT r) 0 (q + 1) (by omega) (by rw [hm]; omega)
    have hrd : rd_T46 (toksL [r] 0) ((q + 1 : Nat) : Int) = t := by
      show (toksL [r] 0).getD ((q + 1 : Nat) : Int).toNat z46 = t
      rw [Int.toNat_natCast, List.getD_eq_getElem?_getD, toksL, List.getElem?_append_left (by rw [placeI_len, hm]; omega), e1]
      rfl
    rw [hrd, e2, Nat.zero_add]
    have hjc := join_cut (itemsT r) (q + 1) (by omega) (by rw [hm]; omega)
    have hlt : lineT r = (joinI ((itemsT r).take (q + 1)) ++ [32]) ++ (joinI ((itemsT r).drop (q + 1)) ++ [10]) := by
      rw [lineT_join, hjc]
      simp
    obtain ⟨J, hJ⟩ : ∃ J, joinI ((itemsT r).take (q + 1)) = J := ⟨_, rfl⟩
    rw [hJ] at hlt ⊢
    have hsz : (ofL (lineT r)).size = (lineT r).length := by rw [← lst_len, lst_ofL]
    have hll := lineT_len r
    have hJl : J.length + 1 ≤ (lineT r).length := by rw [hlt]; simp
    have hex : (ofL (lineT r)).extract 0 (J.length + 1) = ofL (J ++ [32]) := lst_inj (by
      rw [lst_extract, lst_ofL, lst_ofL, hlt, List.drop_zero, Nat.sub_zero]
      exact List.take_left' (by simp))
    have c4 : (0 : Int) ≤ ((J.length + 1 : Nat) : Int) := by omega
    have c5 : ((J.length + 1 : Nat) : Int) ≤ ((ofL (lineT r)).size : Int) := by rw [hsz]; omega
    simp only [if_pos c4, if_pos c5, Int.toNat_natCast, hex]
    have hfs : (ofL (J ++ [32])).size = J.length + 1 := by rw [← lst_len, lst_ofL]; simp
    refine Ev.bind (parse_ev _ (by rw [hfs]; omega)) ?_
    have hp : parseS (ofL (J ++ [32])) = ([], ((J.length + 1 : Nat) : Int), 3) := by
      rw [parseS_lst, lst_ofL, ← hJ]
      have hne : (itemsT r).take (q + 1) ≠ [] := by
        intro h0
        have := congrArg List.length h0
        rw [List.length_take, hm] at this
        simp at this
        omega
      rw [lex_join 32 (.inl rfl) [] ((itemsT r).take (q + 1)) 0 hne (fun x hx => items_good hr' x (List.mem_of_mem_take hx)), lexT_blank 32 _ _ rfl, lexT_nil, Nat.zero_add]
      simp only [Except.map]
      rw [parseC_run]
      have hst := placeI_strip ((itemsT r).take (q + 1)) 0
      obtain ⟨t0, T1, f1, f2, f3⟩ := line_cut hr' (k := q + 1) (by omega) (by rw [hm]; omega) hst (e := ⟨0, ofL [], 0, (((joinI ((itemsT r).take (q + 1))).length + 1 : Nat) : Int)⟩) rfl
      have hE : ending (t0 :: T1) := by
        rw [← f1]
        have hx : lexT (joinI ((itemsT r).take (q + 1)) ++ [32]) 0 = .ok (placeI ((itemsT r).take (q + 1)) 0 ++ [⟨0, ofL [], 0, (((joinI ((itemsT r).take (q + 1))).length + 1 : Nat) : Int)⟩]) := by
          rw [lex_join 32 (.inl rfl) [] ((itemsT r).take (q + 1)) 0 hne (fun x hx => items_good hr' x (List.mem_of_mem_take hx)), lexT_blank 32 _ _ rfl, lexT_nil, Nat.zero_add]
          rfl
        exact lexT_ending _ _ _ hx
      rw [f1, run_line hE f2 [] (by simp), f3]
      rfl
    rw [hp, hfs]
    simp only [List.length_nil, Int.natCast_zero, if_true, beq_self_eq_true]
    exact ev_some
  · have hr' : rightB a b c = false := by simpa using hr
    have ht : (textS [⟨a, b, c⟩]).2 = 3 := by
      unfold textS
      rw [if_neg (by simp), if_neg (by simp [hr'])]
    simp only [ht, if_neg (show ¬ (3 : Int) = 0 by decide)]
    refine Ev.bind (right_ev a b c) ?_
    rw [hr']
    exact ev_some
end Go.Proofs.YthnifjggnjcenaaDoor.Pl
