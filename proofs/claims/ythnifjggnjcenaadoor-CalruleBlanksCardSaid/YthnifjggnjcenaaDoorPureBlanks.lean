/-
  The law CalruleBlanks in plain Lean: more blanks and more line ends change no rule. No condition.
-/
import Derived.Test.YthnifjggnjcenaaDoorBackQ
import Derived.Test.YthnifjggnjcenaaDoorAllx30
namespace Go.Proofs.YthnifjggnjcenaaDoor.Pl
open Go.RowKit Go.Proofs.YthnifjggnjcenaaDoor.All Go.Proofs.YthnifjggnjcenaaDoorW.PrintWords
set_option linter.unusedVariables false
set_option linter.unusedSimpArgs false

/-! ### the wide text -/
def wideC (m : Nat) (c : UInt8) : List UInt8 := if ch c = 32 ∨ ch c = 10 then List.replicate (m + 1) c else [c]
def wideL (m : Nat) (l : List UInt8) : List UInt8 := l.flatMap (wideC m)
theorem wide_len (m : Nat) (hm : m ≤ 2) : ∀ l : List UInt8, (wideL m l).length ≤ 3 * l.length
  | [] => by simp [wideL]
  | c :: l => by
    have ih := wide_len m hm l
    have hc : (wideC m c).length ≤ 3 := by
      unfold wideC
      split
      · simp; omega
      · simp
    unfold wideL at ih ⊢
    rw [List.flatMap_cons, List.length_append, List.length_cons]
    omega
theorem cut_one (s : ByteArray) (i : Nat) (h : i < s.size) : s.extract i (i + 1) = ofL [(lst s)[i]'(by rw [lst_len]; exact h)] := lst_inj (by
  have hi : i < (lst s).length := by rw [lst_len]; exact h
  rw [lst_extract, lst_ofL, List.drop_eq_getElem_cons hi, Nat.add_sub_cancel_left]
  rfl)
theorem bt_one (s : ByteArray) (i : Nat) (h : i < s.size) : bt s (i : Int) = ch ((lst s)[i]'(by rw [lst_len]; exact h)) := by
  have hi : i < (lst s).length := by rw [lst_len]; exact h
  rw [bt_lst, List.getElem?_eq_getElem hi]
section
variable {l : List S33} {n : Int} {m : Nat} {s : ByteArray}
/-- A blank, again and again. -/
theorem more_ev {v : Bool} (hq : Int.tmod (wrap64 n) 3 = (m : Int)) (hm : m ≤ 2) (hs : s.size ≤ 10000) {i : Nat} (hi : i < s.size) {c : UInt8} (hc : ch c = 32 ∨ ch c = 10) (hce : (lst s)[i]'(by rw [lst_len]; exact hi) = c) : ∀ (d q : Nat) (acc : List UInt8), q + d = m + 1 → acc.length + d ≤ 100000 →
    Ev (fun k => erewhilelaw34_CalruleBlanks.l0 k l n s (ofL (acc ++ List.replicate d c)) ((i + 1 : Nat) : Int)) v → Ev (fun k => erewhilelaw34_CalruleBlanks.l1 k l n s (ofL acc) (i : Int) (q : Int)) v
  | 0, q, acc, hqd, ha, h => by
    refine ev_succ ?_
    have c1 : ¬ (q : Int) ≤ (m : Int) := by omega
    have c0 : (0 : Int) ≤ (i : Int) := by omega
    have c2 : (i : Int) < (s.size : Int) := by omega
    have eb : bt s (i : Int) = ch c := by rw [bt_one s i hi, hce]
    simp only [erewhilelaw34_CalruleBlanks.l1, hq, if_neg c1, if_pos c0, if_pos c2, eb, wrap_succ i (by omega)]
    simp only [List.replicate_zero, List.append_nil] at h
    rcases hc with hc | hc
    · simp only [if_pos hc]
      exact h
    · simp only [if_neg (show ¬ ch c = 32 by omega), if_pos hc]
      exact h
  | d + 1, q, acc, hqd, ha, h => by
    have hd : acc ++ List.replicate (d + 1) c = (acc ++ [c]) ++ List.replicate d c := by simp [List.replicate_succ]
    rw [hd] at h
    have hsm : (ofL acc).size + (ofL [c]).size ≤ 9223372036854775807 := by rw [size_ofL, size_ofL]; simp; omega
    have ih := more_ev hq hm hs hi hc hce d (q + 1) (acc ++ [c]) (by omega) (by rw [List.length_append]; simp; omega) h
    refine ev_succ ?_
    have c1 : (q : Int) ≤ (m : Int) := by omega
    have c0 : (0 : Int) ≤ (i : Int) := by omega
    have c2 : (i : Int) < (s.size : Int) := by omega
    have c3 : (i : Int) ≤ ((i + 1 : Nat) : Int) := by omega
    have c4 : ((i + 1 : Nat) : Int) ≤ (s.size : Int) := by omega
    have eb : bt s (i : Int) = ch c := by rw [bt_one s i hi, hce]
    have ex : s.extract i (i + 1) = ofL [c] := by rw [cut_one s i hi, hce]
    simp only [erewhilelaw34_CalruleBlanks.l1, hq, if_pos c1, if_pos c0, if_pos c2, eb, wrap_succ i (by omega), if_pos c3, if_pos c4, Int.toNat_natCast, ex, if_pos hsm, ← ofL_append, wrap_succ q (by omega)]
    rcases hc with hc | hc
    · simp only [if_pos hc]
      exact ih
    · simp only [if_neg (show ¬ ch c = 32 by omega), if_pos hc]
      exact ih
/-- The text is made wide. -/
theorem wide_ev {v : Bool} (hq : Int.tmod (wrap64 n) 3 = (m : Int)) (hm : m ≤ 2) (hs : s.size ≤ 10000) : ∀ (r : List UInt8) (i : Nat) (acc : List UInt8), (lst s).drop i = r → i ≤ s.size → acc.length ≤ 3 * i + 1 →
    Ev (fun k => erewhilelaw34_CalruleBlanks.l0 k l n s (ofL (acc ++ wideL m r)) (s.size : Int)) v → Ev (fun k => erewhilelaw34_CalruleBlanks.l0 k l n s (ofL acc) (i : Int)) v
  | [], i, acc, hr, hi, ha, h => by
    have hle := List.drop_eq_nil_iff.1 hr
    rw [lst_len] at hle
    obtain rfl : i = s.size := by omega
    simp only [wideL, List.flatMap_nil, List.append_nil] at h
    exact h
  | c :: r, i, acc, hr, hi, ha, h => by
    have hlt' : i < (lst s).length := by
      refine Nat.lt_of_not_le fun h => ?_
      rw [List.drop_eq_nil_of_le h] at hr
      cases hr
    have hlt : i < s.size := by rw [← lst_len]; exact hlt'
    rw [List.drop_eq_getElem_cons hlt', List.cons.injEq] at hr
    obtain ⟨hce, hr'⟩ := hr
    have h' : Ev (fun k => erewhilelaw34_CalruleBlanks.l0 k l n s (ofL (acc ++ wideC m c)) ((i + 1 : Nat) : Int)) v := by
      refine wide_ev hq hm hs r (i + 1) (acc ++ wideC m c) hr' (by omega) ?_ ?_
      · have hc : (wideC m c).length ≤ 3 := by
          unfold wideC
          split
          · simp; omega
          · simp
        rw [List.length_append]
        omega
      · rw [List.append_assoc, show wideC m c ++ wideL m r = wideL m (c :: r) by simp [wideL]]
        exact h
    refine ev_succ ?_
    have c1 : (i : Int) < (s.size : Int) := by omega
    simp only [erewhilelaw34_CalruleBlanks.l0, if_pos c1]
    by_cases hc : ch c = 32 ∨ ch c = 10
    · have e : wideC m c = List.replicate (m + 1) c := by unfold wideC; rw [if_pos hc]
      rw [e] at h'
      exact more_ev hq hm hs hlt hc hce (m + 1) 0 acc (by omega) (by omega) h'
    · have e : wideC m c = [c] := by unfold wideC; rw [if_neg hc]
      rw [e] at h'
      have g1 : ¬ ch c = 32 := fun h => hc (.inl h)
      have g2 : ¬ ch c = 10 := fun h => hc (.inr h)
      have hsm : (ofL acc).size + (ofL [c]).size ≤ 9223372036854775807 := by rw [size_ofL, size_ofL]; simp; omega
      refine ev_succ ?_
      have k1 : (0 : Int) ≤ (m : Int) := by omega
      have c0 : (0 : Int) ≤ (i : Int) := by omega
      have c3 : (i : Int) ≤ ((i + 1 : Nat) : Int) := by omega
      have c4 : ((i + 1 : Nat) : Int) ≤ (s.size : Int) := by omega
      have eb : bt s (i : Int) = ch c := by rw [bt_one s i hlt, hce]
      have ex : s.extract i (i + 1) = ofL [c] := by rw [cut_one s i hlt, hce]
      simp only [erewhilelaw34_CalruleBlanks.l1, hq, if_pos k1, if_pos c0, if_pos c1, eb, wrap_succ i (by omega), if_pos c3, if_pos c4, Int.toNat_natCast, ex, if_pos hsm, ← ofL_append, if_neg g1, if_neg g2]
      exact h'
end

/-! ### the wide text's tokens -/
theorem wide_append (m : Nat) (a b : List UInt8) : wideL m (a ++ b) = wideL m a ++ wideL m b := by simp [wideL]
theorem wide_plain (m : Nat) : ∀ l : List UInt8, (∀ c ∈ l, isBoth (ch c) = true) → wideL m l = l
  | [], _ => rfl
  | c :: l, h => by
    have hc := h c (.head _)
    have ih := wide_plain m l (fun x hx => h x (.tail _ hx))
    have e : wideC m c = [c] := by
      unfold wideC
      rw [if_neg]
      rintro (h2 | h2) <;> rw [h2] at hc <;> exact absurd hc (by decide)
    unfold wideL at ih ⊢
    rw [List.flatMap_cons, ih, e]
    rfl
theorem good_both {t : S46} (h : goodI t) : ∀ c ∈ lst t.f1, isBoth (ch c) = true := by
  intro c hc
  rcases h with ⟨_, _, _, hl⟩ | ⟨_, n, _, _, hl⟩
  · have h1 := hl c hc
    rw [isBoth_or, h1, Bool.or_true]
  · rw [hl] at hc
    exact both_text n c hc
theorem lex_blanks (R : List UInt8) : ∀ (k a : Nat), lexT (List.replicate k 32 ++ R) a = lexT R (a + k)
  | 0, a => rfl
  | k + 1, a => by
    rw [List.replicate_succ, List.cons_append, lexT_blank 32 _ _ rfl, lex_blanks R k (a + 1)]
    congr 1
    omega
theorem lex_feeds (R : List UInt8) : ∀ (k a : Nat), ∃ N : List S46, (∀ t ∈ N, t.f0 = 3) ∧ lexT (List.replicate k 10 ++ R) a = (lexT R (a + k)).map (fun l => N ++ l)
  | 0, a => ⟨[], (fun t ht => by cases ht), by cases h : lexT R (a + 0) <;> simp_all [Except.map]⟩
  | k + 1, a => by
    obtain ⟨N, h1, h2⟩ := lex_feeds R k (a + 1)
    refine ⟨⟨3, ofL [], 0, (a : Int)⟩ :: N, ?_, ?_⟩
    · intro t ht
      rcases List.mem_cons.1 ht with rfl | ht
      · rfl
      · exact h1 t ht
    · rw [List.replicate_succ, List.cons_append, lexT_line 10 _ _ rfl, h2, map_map, show a + 1 + k = a + (k + 1) by omega]
      rfl
theorem lex_wideJ (m : Nat) (x : UInt8) (hx : ch x = 32 ∨ ch x = 10) (M : List UInt8) : ∀ (ts : List S46) (a : Nat), ts ≠ [] → (∀ t ∈ ts, goodI t) → ∃ T b, T.map stripT = ts.map stripT ∧ lexT (wideL m (joinI ts) ++ x :: M) a = (lexT (x :: M) b).map (fun l => T ++ l)
  | [], a, h, _ => absurd rfl h
  | [t], a, _, hg => by
    refine ⟨[putT t a], a + (lst t.f1).length, rfl, ?_⟩
    rw [joinI, wide_plain m _ (good_both (hg t (.head _))), lex_item (hg t (.head _)) x hx M a]
    rfl
  | t :: u :: ts, a, _, hg => by
    have hg' := hg t (.head _)
    obtain ⟨T, b, h1, h2⟩ := lex_wideJ m x hx M (u :: ts) (a + (lst t.f1).length + 1 + m) (by simp) (fun y hy => hg y (.tail _ hy))
    refine ⟨putT t a :: T, b, ?_, ?_⟩
    · rw [List.map_cons, h1]; rfl
    · have e : wideL m (joinI (t :: u :: ts)) = lst t.f1 ++ 32 :: (List.replicate m 32 ++ wideL m (joinI (u :: ts))) := by
        rw [joinI, wide_append, wide_plain m _ (good_both hg')]
        congr 1
      rw [e, List.append_assoc, List.cons_append, lex_item hg' 32 (.inl rfl), lexT_blank 32 _ _ rfl, List.append_assoc, lex_blanks, h2, map_map]
      rfl
theorem run_feeds (T : List S46) (out : List S33) : ∀ N : List S46, (∀ t ∈ N, t.f0 = 3) → runP (N ++ T) ⟨0, 0, 0, 0, out⟩ = runP T ⟨0, 0, 0, 0, out⟩
  | [], _ => rfl
  | t :: N, h => by
    have ht := h t (.head _)
    rw [List.cons_append, runP, stepP, if_neg (by omega), if_pos rfl]
    exact run_feeds T out N (fun x hx => h x (.tail _ hx))
theorem lex_wide (m : Nat) : ∀ (l : List S33) (a : Nat), allR l → ∃ T, lexT (wideL m (l.flatMap lineT) ++ [32]) a = .ok T ∧ ∀ out : List S33, out.length + l.length ≤ 16 → runP T ⟨0, 0, 0, 0, out⟩ = .ok ⟨0, 0, 0, 0, out ++ l⟩
  | [], a, _ => by
    refine ⟨_, lexT_blank 32 [] a rfl, fun out _ => ?_⟩
    rw [runP, stepP, if_neg (by simp), if_pos rfl, List.append_nil]
    rfl
  | r :: l, a, h => by
    have hr := h r (.head _)
    have e : wideL m ((r :: l).flatMap lineT) ++ [32] = wideL m (joinI (itemsT r)) ++ 10 :: (List.replicate m 10 ++ (wideL m (l.flatMap lineT) ++ [32])) := by
      rw [List.flatMap_cons, wide_append, lineT_join, wide_append]
      have e10 : wideL m [10] = 10 :: List.replicate m 10 := by simp [wideL, wideC, List.replicate_succ, show ch 10 = 10 from rfl]
      rw [e10]
      simp
    obtain ⟨T, b, h1, h2⟩ := lex_wideJ m 10 (.inr rfl) (List.replicate m 10 ++ (wideL m (l.flatMap lineT) ++ [32])) (itemsT r) a (items_ne r hr) (items_good hr)
    obtain ⟨N, h3, h4⟩ := lex_feeds (wideL m (l.flatMap lineT) ++ [32]) m (b + 1)
    obtain ⟨T', h5, h6⟩ := lex_wide m l (b + 1 + m) (fun x hx => h x (.tail _ hx))
    have hw : lexT (wideL m ((r :: l).flatMap lineT) ++ [32]) a = .ok (T ++ ⟨3, ofL [], 0, (b : Int)⟩ :: (N ++ T')) := by
      rw [e, h2, lexT_line 10 _ _ rfl, h4, h5]
      rfl
    refine ⟨_, hw, fun out ho => ?_⟩
    simp only [List.length_cons] at ho
    rw [run_rule hr h1 (by simp) (lexT_ending _ _ _ hw) out (by omega), run_feeds _ _ N h3, h6 _ (by simp; omega)]
    simp
theorem wide_parse (m : Nat) (l : List S33) (h : allR l) (hl : l.length ≤ 16) : parseS (ofL (32 :: 32 :: 10 :: (wideL m (l.flatMap lineT) ++ [32]))) = (l, 0, 0) := by
  obtain ⟨T, h1, h2⟩ := lex_wide m l 3 h
  have hw : lexT (32 :: 32 :: 10 :: (wideL m (l.flatMap lineT) ++ [32])) 0 = .ok (⟨3, ofL [], 0, ((2 : Nat) : Int)⟩ :: T) := by
    rw [lexT_blank 32 _ _ rfl, lexT_blank 32 _ _ rfl, lexT_line 10 _ _ rfl, h1]
    rfl
  rw [parseS_lst, lst_ofL, hw]
  simp only
  rw [parseC_run, runP, stepP, if_neg (by simp), if_pos rfl]
  simp only
  rw [h2 [] (by simp; exact hl)]
  rfl
theorem blanks_pure (l : List S33) (n : Int) (hn : (Lit.int .u8 n).wf = true) : Ev (fun k => erewhilelaw34_CalruleBlanks.f k l n) true := by
  simp only [erewhilelaw34_CalruleBlanks.f]
  refine Ev.bind awake_ev ?_
  simp only [if_true]
  refine ev_succ ?_
  cases hq : decide ((l.length : Int) > 40) with
  | true =>
    simp only [erewhilelaw34_CalruleBlanks.j0, if_true]
    exact Ev.bind awake_ev ev_some
  | false =>
    simp only [erewhilelaw34_CalruleBlanks.j0, Bool.false_eq_true, if_false]
    refine Ev.bind (texts_ev l) ?_
    by_cases h0 : (textS l).2 = 0
    · obtain ⟨h1, h2, h3, h4⟩ := text_back l h0
      have hs := text_small l
      simp only [if_pos h0]
      rw [h4] at hs ⊢
      have hn' : 0 ≤ n ∧ n ≤ 255 := by
        simp [Lit.wf, IntKind.min, IntKind.max, IntKind.signed, IntKind.bits] at hn
        omega
      have w2 : wrap64 n = ((n.toNat : Nat) : Int) := by
        rw [show n = ((n.toNat : Nat) : Int) by omega]
        exact wrap_nat _ (by omega)
      obtain ⟨m, hm⟩ : ∃ m, n.toNat % 3 = m := ⟨_, rfl⟩
      have hm2 : m ≤ 2 := by omega
      have hq3 : Int.tmod (wrap64 n) 3 = (m : Int) := by
        rw [w2, ← hm]
        exact mod_nat _ 3
      obtain ⟨S, hS⟩ : ∃ S, l.flatMap lineT = S := ⟨_, rfl⟩
      have hp := wide_parse m l h2 h3
      rw [hS] at hs hp ⊢
      rw [size_ofL] at hs
      have hwl := wide_len m hm2 S
      refine wide_ev hq3 hm2 (by rw [size_ofL]; omega) S 0 [10] (by rw [lst_ofL]; rfl) (by omega) (by simp) ?_
      have g1 : ¬ ((ofL S).size : Int) < ((ofL S).size : Int) := by omega
      have g2 : 2 + (ofL ([10] ++ wideL m S)).size ≤ 9223372036854775807 := by rw [size_ofL]; simp; omega
      have e32 : (⟨#[32, 32]⟩ : ByteArray) = ofL [32, 32] := rfl
      have e1 : (⟨#[32]⟩ : ByteArray) = ofL [32] := rfl
      have g3 : (ofL ([32, 32] ++ ([10] ++ wideL m S))).size + 1 ≤ 9223372036854775807 := by rw [size_ofL]; simp; omega
      refine ev_succ ?_
      simp only [erewhilelaw34_CalruleBlanks.l0, if_neg g1, if_pos g2, e32, e1, ← ofL_append, if_pos g3]
      have es : [32, 32] ++ ([10] ++ wideL m S) ++ [32] = (32 :: 32 :: 10 :: (wideL m S ++ [32]) : List UInt8) := by simp
      rw [es]
      refine Ev.bind (parse_ev _ (by rw [size_ofL]; simp; omega)) ?_
      rw [hp]
      simp only [if_true]
      exact Ev.bind (same_ev l (by omega)) ev_some
    · simp only [if_neg h0]
      exact ev_some
end Go.Proofs.YthnifjggnjcenaaDoor.Pl
