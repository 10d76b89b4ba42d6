/-
  Lex by its kinds of steps: texts side by side, a text farther on, tokens written out again, and where they stand. No condition.
-/
import Derived.Test.YtonlbeonblpblaaDoorLexL
namespace Go.Proofs.YtonlbeonblpblaaDoor.Pl
open Go.RowKit Go.Proofs.YtonlbeonblpblaaDoor.All Go.Proofs.YtonlbeonblpblaaDoorW.PrintWords
set_option linter.unusedVariables false
set_option linter.unusedSimpArgs false

theorem drop_len (p : UInt8 → Bool) (c : UInt8) (r : List UInt8) (h : p c = true) : ((c :: r).dropWhile p).length ≤ r.length := by
  rw [List.dropWhile_cons, if_pos h]
  exact List.IsSuffix.length_le (List.dropWhile_suffix p)
theorem lex_ind {P : List UInt8 → Prop} (nil : P [])
    (blank : ∀ c r, ch c = 32 → P r → P (c :: r)) (line : ∀ c r, ch c = 10 → P r → P (c :: r))
    (word : ∀ c r, isLet (ch c) = true → P ((c :: r).dropWhile (fun x => isLet (ch x))) → P (c :: r))
    (time : ∀ c r, isDig (ch c) = true → P ((c :: r).dropWhile (fun x => isBoth (ch x))) → P (c :: r))
    (other : ∀ c r, ch c ≠ 32 → ch c ≠ 10 → isLet (ch c) = false → isDig (ch c) = false → P (c :: r)) : ∀ l, P l := by
  suffices ∀ (n : Nat) l, l.length ≤ n → P l from fun l => this l.length l (Nat.le_refl _)
  intro n
  induction n with
  | zero =>
    intro l hl
    rw [List.eq_nil_of_length_eq_zero (Nat.le_zero.1 hl)]
    exact nil
  | succ n ih =>
    intro l hl
    cases l with
    | nil => exact nil
    | cons c r =>
      simp only [List.length_cons] at hl
      by_cases h1 : ch c = 32
      · exact blank c r h1 (ih r (by omega))
      · by_cases h2 : ch c = 10
        · exact line c r h2 (ih r (by omega))
        · cases h3 : isLet (ch c) with
          | true => exact word c r h3 (ih _ (by have := drop_len (fun x => isLet (ch x)) c r h3; omega))
          | false =>
            cases h4 : isDig (ch c) with
            | true => exact time c r h4 (ih _ (by have := drop_len (fun x => isBoth (ch x)) c r (by simp [isBoth, h4]); omega))
            | false => exact other c r h1 h2 h3 h4

theorem take_beside (p : UInt8 → Bool) (x : UInt8) (m : List UInt8) (hx : p x = false) : ∀ l : List UInt8, (l ++ x :: m).takeWhile p = l.takeWhile p ∧ (l ++ x :: m).dropWhile p = l.dropWhile p ++ x :: m
  | [] => by simp [List.takeWhile_cons, List.dropWhile_cons, hx]
  | c :: l => by
    obtain ⟨h1, h2⟩ := take_beside p x m hx l
    rw [List.cons_append, List.takeWhile_cons, List.dropWhile_cons, List.takeWhile_cons, List.dropWhile_cons]
    by_cases h : p c = true
    · rw [if_pos h, if_pos h, if_pos h, if_pos h, h1, h2]
      exact ⟨rfl, rfl⟩
    · rw [if_neg h, if_neg h, if_neg h, if_neg h]
      exact ⟨rfl, rfl⟩

/-! ### what an answer is -/
theorem map_ok {t : S69} {X : Except Nat (List S69)} {L : List S69} (h : X.map (fun l => t :: l) = .ok L) : ∃ M, X = .ok M ∧ L = t :: M := by
  cases X with
  | error j => cases h
  | ok M => exact ⟨M, rfl, (Except.ok.inj h).symm⟩
theorem lexT_bounds : ∀ (l : List UInt8) (a : Nat) (L : List S69), lexT l a = .ok L → L ≠ [] ∧ L.length ≤ l.length + 1 ∧ ∀ t ∈ L, ∃ p : Nat, t.f3 = (p : Int) ∧ a ≤ p ∧ p ≤ a + l.length := by
  refine lex_ind ?_ ?_ ?_ ?_ ?_ ?_
  · intro a L h
    rw [lexT_nil] at h
    obtain rfl := Except.ok.inj h
    exact ⟨by simp, by simp, fun t ht => ⟨a, by rw [List.mem_singleton.1 ht], by omega, by omega⟩⟩
  · intro c r hc ih a L h
    rw [lexT_blank c r a hc] at h
    obtain ⟨h1, h2, h3⟩ := ih _ _ h
    refine ⟨h1, by simp; omega, fun t ht => ?_⟩
    obtain ⟨p, e, h4, h5⟩ := h3 t ht
    exact ⟨p, e, by omega, by simp; omega⟩
  · intro c r hc ih a L h
    rw [lexT_line c r a hc] at h
    obtain ⟨M, hM, rfl⟩ := map_ok h
    obtain ⟨h1, h2, h3⟩ := ih _ _ hM
    refine ⟨by simp, by simp; omega, fun t ht => ?_⟩
    rcases List.mem_cons.1 ht with rfl | ht
    · exact ⟨a, rfl, by omega, by omega⟩
    · obtain ⟨p, e, h4, h5⟩ := h3 t ht
      exact ⟨p, e, by omega, by simp; omega⟩
  · intro c r hc ih a L h
    rw [lexT_word c r a hc] at h
    obtain ⟨M, hM, rfl⟩ := map_ok h
    obtain ⟨h1, h2, h3⟩ := ih _ _ hM
    have hl := congrArg List.length (List.takeWhile_append_dropWhile (p := fun x => isLet (ch x)) (l := c :: r))
    have hd := drop_len (fun x => isLet (ch x)) c r hc
    rw [List.length_append] at hl
    simp only [List.length_cons] at hl ⊢
    refine ⟨by simp, by omega, fun t ht => ?_⟩
    rcases List.mem_cons.1 ht with rfl | ht
    · exact ⟨a, rfl, by omega, by omega⟩
    · obtain ⟨p, e, h4, h5⟩ := h3 t ht
      exact ⟨p, e, by omega, by omega⟩
  · intro c r hc ih a L h
    rw [lexT_time c r a hc] at h
    split at h
    · obtain ⟨M, hM, rfl⟩ := map_ok h
      obtain ⟨h1, h2, h3⟩ := ih _ _ hM
      have hl := congrArg List.length (List.takeWhile_append_dropWhile (p := fun x => isBoth (ch x)) (l := c :: r))
      have hd := drop_len (fun x => isBoth (ch x)) c r (by simp [isBoth, hc])
      rw [List.length_append] at hl
      simp only [List.length_cons] at hl ⊢
      refine ⟨by simp, by omega, fun t ht => ?_⟩
      rcases List.mem_cons.1 ht with rfl | ht
      · exact ⟨a, rfl, by omega, by omega⟩
      · obtain ⟨p, e, h4, h5⟩ := h3 t ht
        exact ⟨p, e, by omega, by omega⟩
    · cases h
  · intro c r h1 h2 h3 h4 a L h
    rw [lexT_other c r a h1 h2 h3 h4] at h
    cases h

/-! ### side by side -/
def besideL (n : Nat) (l2 : List UInt8) : Except Nat (List S69) → Except Nat (List S69)
  | .error j => .error j
  | .ok L => (lexT l2 (n + 1)).map (fun m => L.dropLast ++ ⟨3, ofL [], 0, (n : Int)⟩ :: m)
theorem beside_map (n : Nat) (l2 : List UInt8) (t : S69) (X : Except Nat (List S69)) (hX : ∀ L, X = .ok L → L ≠ []) : besideL n l2 (X.map (fun l => t :: l)) = (besideL n l2 X).map (fun l => t :: l) := by
  cases X with
  | error j => rfl
  | ok L =>
    have hne := hX L rfl
    cases L with
    | nil => exact absurd rfl hne
    | cons u L =>
      simp only [besideL, Except.map]
      cases lexT l2 (n + 1) <;> rfl
theorem lexT_beside (l2 : List UInt8) : ∀ (l1 : List UInt8) (a : Nat), lexT (l1 ++ 10 :: l2) a = besideL (a + l1.length) l2 (lexT l1 a) := by
  have ne : ∀ l a (L : List S69), lexT l a = .ok L → L ≠ [] := fun l a L h => (lexT_bounds l a L h).1
  refine lex_ind ?_ ?_ ?_ ?_ ?_ ?_
  · intro a
    rw [List.nil_append, lexT_line 10 l2 a (by decide), lexT_nil]
    rfl
  · intro c r hc ih a
    rw [List.cons_append, lexT_blank c _ a hc, lexT_blank c _ a hc, ih (a + 1), List.length_cons, show a + 1 + r.length = a + (r.length + 1) by omega]
  · intro c r hc ih a
    rw [List.cons_append, lexT_line c _ a hc, lexT_line c _ a hc, ih (a + 1), List.length_cons, show a + 1 + r.length = a + (r.length + 1) by omega, beside_map _ _ _ _ (ne _ _)]
  · intro c r hc ih a
    have hb := take_beside (fun x => isLet (ch x)) 10 l2 (by decide) (c :: r)
    have hl := congrArg List.length (List.takeWhile_append_dropWhile (p := fun x => isLet (ch x)) (l := c :: r))
    rw [List.length_append] at hl
    rw [List.cons_append] at hb ⊢
    rw [lexT_word c _ a hc, lexT_word c _ a hc, hb.1, hb.2, ih, beside_map _ _ _ _ (ne _ _), Nat.add_assoc, hl]
  · intro c r hc ih a
    have hb := take_beside (fun x => isBoth (ch x)) 10 l2 (by decide) (c :: r)
    have hl := congrArg List.length (List.takeWhile_append_dropWhile (p := fun x => isBoth (ch x)) (l := c :: r))
    rw [List.length_append] at hl
    rw [List.cons_append] at hb ⊢
    rw [lexT_time c _ a hc, lexT_time c _ a hc, hb.1, hb.2]
    split
    · rw [ih, beside_map _ _ _ _ (ne _ _), Nat.add_assoc, hl]
    · rfl
  · intro c r h1 h2 h3 h4 a
    rw [List.cons_append, lexT_other c _ a h1 h2 h3 h4, lexT_other c _ a h1 h2 h3 h4]
    rfl

/-! ### farther on -/
def shiftT (d : Nat) (t : S69) : S69 := ⟨t.f0, t.f1, t.f2, t.f3 + (d : Int)⟩
def shiftL (d : Nat) : Except Nat (List S69) → Except Nat (List S69)
  | .error j => .error (j + d)
  | .ok L => .ok (L.map (shiftT d))
theorem shift_map (d : Nat) (t u : S69) (hu : shiftT d t = u) (X : Except Nat (List S69)) : shiftL d (X.map (fun l => t :: l)) = (shiftL d X).map (fun l => u :: l) := by
  cases X with
  | error j => rfl
  | ok L =>
    subst hu
    rfl
theorem lexT_shift (d : Nat) : ∀ (l : List UInt8) (a : Nat), lexT l (a + d) = shiftL d (lexT l a) := by
  refine lex_ind ?_ ?_ ?_ ?_ ?_ ?_
  · intro a
    rw [lexT_nil, lexT_nil]
    simp [shiftL, shiftT]
  · intro c r hc ih a
    rw [lexT_blank c _ _ hc, lexT_blank c _ _ hc, ← ih (a + 1), show a + d + 1 = a + 1 + d by omega]
  · intro c r hc ih a
    rw [lexT_line c _ _ hc, lexT_line c _ _ hc, shift_map d _ _ rfl, ← ih (a + 1), show a + d + 1 = a + 1 + d by omega]
    rfl
  · intro c r hc ih a
    rw [lexT_word c _ _ hc, lexT_word c _ _ hc, shift_map d _ _ rfl, ← ih, Nat.add_right_comm]
    rfl
  · intro c r hc ih a
    rw [lexT_time c _ _ hc, lexT_time c _ _ hc]
    split
    · rw [shift_map d _ _ rfl, ← ih, Nat.add_right_comm]
      rfl
    · rfl
  · intro c r h1 h2 h3 h4 a
    rw [lexT_other c _ _ h1 h2 h3 h4, lexT_other c _ _ h1 h2 h3 h4]
    rfl

/-! ### written out again -/
def stripT (t : S69) : S69 := ⟨t.f0, t.f1, t.f2, 0⟩
def outT (t : S69) : List UInt8 := if t.f0 = 3 then [10] else lst t.f1 ++ [32]
def joinL (L : List S69) : List UInt8 := L.flatMap outT
theorem run_all (p : UInt8 → Bool) (l : List UInt8) : ∀ x ∈ l.takeWhile p, p x = true := by
  induction l with
  | nil => intro x hx; cases hx
  | cons c r ih =>
    intro x hx
    rw [List.takeWhile_cons] at hx
    split at hx
    · rename_i h
      rcases List.mem_cons.1 hx with rfl | hx
      · exact h
      · exact ih x hx
    · cases hx
theorem take_whole (p : UInt8 → Bool) (x : UInt8) (m : List UInt8) (hx : p x = false) (l : List UInt8) (hl : ∀ y ∈ l, p y = true) : (l ++ x :: m).takeWhile p = l ∧ (l ++ x :: m).dropWhile p = x :: m := by
  obtain ⟨h1, h2⟩ := take_beside p x m hx l
  have h3 : l.takeWhile p = l ∧ l.dropWhile p = [] := by
    clear h1 h2
    induction l with
    | nil => exact ⟨rfl, rfl⟩
    | cons y l ih =>
      have hy := hl y (by simp)
      obtain ⟨i1, i2⟩ := ih (fun z hz => hl z (by simp [hz]))
      rw [List.takeWhile_cons, List.dropWhile_cons, if_pos hy, if_pos hy, i1, i2]
      exact ⟨rfl, rfl⟩
  rw [h1, h2, h3.1, h3.2]
  exact ⟨rfl, rfl⟩
theorem lexT_again : ∀ (l : List UInt8) (a : Nat) (L : List S69), lexT l a = .ok L → ∀ b, ∃ L', lexT (joinL L) b = .ok L' ∧ L'.map stripT = L.map stripT := by
  refine lex_ind ?_ ?_ ?_ ?_ ?_ ?_
  · intro a L h b
    rw [lexT_nil] at h
    obtain rfl := Except.ok.inj h
    refine ⟨[⟨0, ofL [], 0, ((b + 1 : Nat) : Int)⟩], ?_, rfl⟩
    · have : joinL ([⟨0, ofL [], 0, (a : Int)⟩] : List S69) = [32] := rfl
      rw [this, lexT_blank 32 [] b (by decide), lexT_nil]
  · intro c r hc ih a L h b
    rw [lexT_blank c r a hc] at h
    exact ih _ _ h b
  · intro c r hc ih a L h b
    rw [lexT_line c r a hc] at h
    obtain ⟨M, hM, rfl⟩ := map_ok h
    obtain ⟨M', h1, h2⟩ := ih _ _ hM (b + 1)
    refine ⟨⟨3, ofL [], 0, (b : Int)⟩ :: M', ?_, by rw [List.map_cons, List.map_cons, h2]; rfl⟩
    have : joinL ((⟨3, ofL [], 0, (a : Int)⟩ : S69) :: M) = 10 :: joinL M := rfl
    rw [this, lexT_line 10 _ b (by decide), h1]
    rfl
  · intro c r hc ih a L h b
    rw [lexT_word c r a hc] at h
    obtain ⟨M, hM, rfl⟩ := map_ok h
    have hw : (c :: r).takeWhile (fun x => isLet (ch x)) = c :: r.takeWhile (fun x => isLet (ch x)) := by rw [List.takeWhile_cons, if_pos hc]
    have hall := run_all (fun x => isLet (ch x)) (c :: r)
    rw [hw] at hall ⊢
    have hb := take_whole (fun x => isLet (ch x)) 32 (joinL M) (by decide) _ hall
    have : joinL ((⟨1, ofL (c :: r.takeWhile (fun x => isLet (ch x))), 0, (a : Int)⟩ : S69) :: M) = c :: (r.takeWhile (fun x => isLet (ch x)) ++ 32 :: joinL M) := by
      show (if (1 : Int) = 3 then [10] else lst (ofL (c :: r.takeWhile (fun x => isLet (ch x)))) ++ [32]) ++ joinL M = _
      rw [if_neg (by decide), lst_ofL]
      simp
    rw [this]
    rw [List.cons_append] at hb
    rw [lexT_word c _ b hc, hb.1, hb.2, lexT_blank 32 _ _ (by decide)]
    obtain ⟨M', h1, h2⟩ := ih _ _ hM (b + (c :: r.takeWhile (fun x => isLet (ch x))).length + 1)
    rw [h1]
    exact ⟨_, rfl, by rw [List.map_cons, List.map_cons, h2]; rfl⟩
  · intro c r hc ih a L h b
    rw [lexT_time c r a hc] at h
    split at h
    · rename_i hm
      obtain ⟨M, hM, rfl⟩ := map_ok h
      have hc' : isBoth (ch c) = true := by simp [isBoth, hc]
      have hw : (c :: r).takeWhile (fun x => isBoth (ch x)) = c :: r.takeWhile (fun x => isBoth (ch x)) := by rw [List.takeWhile_cons, if_pos hc']
      have hall := run_all (fun x => isBoth (ch x)) (c :: r)
      rw [hw] at hall hm ⊢
      have hb := take_whole (fun x => isBoth (ch x)) 32 (joinL M) (by decide) _ hall
      generalize hq : (minuL (c :: r.takeWhile (fun x => isBoth (ch x)))).1 = q
      have : joinL ((⟨2, ofL (c :: r.takeWhile (fun x => isBoth (ch x))), q, (a : Int)⟩ : S69) :: M) = c :: (r.takeWhile (fun x => isBoth (ch x)) ++ 32 :: joinL M) := by
        show (if (2 : Int) = 3 then [10] else lst (ofL (c :: r.takeWhile (fun x => isBoth (ch x)))) ++ [32]) ++ joinL M = _
        rw [if_neg (by decide), lst_ofL]
        simp
      rw [this]
      rw [List.cons_append] at hb
      rw [lexT_time c _ b hc, hb.1, hb.2, if_pos hm, lexT_blank 32 _ _ (by decide), hq]
      obtain ⟨M', h1, h2⟩ := ih _ _ hM (b + (c :: r.takeWhile (fun x => isBoth (ch x))).length + 1)
      rw [h1]
      exact ⟨_, rfl, by rw [List.map_cons, List.map_cons, h2]; rfl⟩
    · cases h
  · intro c r h1 h2 h3 h4 a L h
    rw [lexT_other c r a h1 h2 h3 h4] at h
    cases h

/-! ### where they stand -/
def chain : Int → List S69 → Prop
  | _, [] => True
  | lo, t :: L => lo ≤ t.f3 ∧ chain (t.f3 + (t.f1.size : Int)) L
theorem chain_le {lo lo' : Int} (h : lo ≤ lo') : ∀ L, chain lo' L → chain lo L
  | [], _ => trivial
  | t :: L, ⟨h1, h2⟩ => ⟨by omega, h2⟩
theorem size_ofL (l : List UInt8) : (ofL l).size = l.length := by rw [← lst_len, lst_ofL]
theorem lexT_chain : ∀ (l : List UInt8) (a : Nat) (L : List S69), lexT l a = .ok L → chain (a : Int) L := by
  refine lex_ind ?_ ?_ ?_ ?_ ?_ ?_
  · intro a L h
    rw [lexT_nil] at h
    obtain rfl := Except.ok.inj h
    exact ⟨Int.le_refl _, trivial⟩
  · intro c r hc ih a L h
    rw [lexT_blank c r a hc] at h
    exact chain_le (by omega) _ (ih _ _ h)
  · intro c r hc ih a L h
    rw [lexT_line c r a hc] at h
    obtain ⟨M, hM, rfl⟩ := map_ok h
    refine ⟨Int.le_refl _, chain_le ?_ _ (ih _ _ hM)⟩
    show (a : Int) + ((ofL []).size : Int) ≤ _
    rw [size_ofL, List.length_nil]
    omega
  · intro c r hc ih a L h
    rw [lexT_word c r a hc] at h
    obtain ⟨M, hM, rfl⟩ := map_ok h
    refine ⟨Int.le_refl _, chain_le ?_ _ (ih _ _ hM)⟩
    show (a : Int) + ((ofL _).size : Int) ≤ _
    rw [size_ofL]
    omega
  · intro c r hc ih a L h
    rw [lexT_time c r a hc] at h
    split at h
    · obtain ⟨M, hM, rfl⟩ := map_ok h
      refine ⟨Int.le_refl _, chain_le ?_ _ (ih _ _ hM)⟩
      show (a : Int) + ((ofL _).size : Int) ≤ _
      rw [size_ofL]
      omega
    · cases h
  · intro c r h1 h2 h3 h4 a L h
    rw [lexT_other c r a h1 h2 h3 h4] at h
    cases h
def standsT (S : List UInt8) (t : S69) : Prop := ∃ p : Nat, t.f3 = (p : Int) ∧ p ≤ S.length ∧ (S.drop p).take t.f1.size = lst t.f1
theorem lexT_stands (S : List UInt8) : ∀ (l : List UInt8) (a : Nat), l = S.drop a → a ≤ S.length → ∀ L : List S69, lexT l a = .ok L → ∀ t ∈ L, standsT S t := by
  have e0 : ∀ a : Nat, a ≤ S.length → standsT S ⟨0, ofL [], 0, (a : Int)⟩ := fun a ha => ⟨a, rfl, ha, by show (S.drop a).take (ofL []).size = lst (ofL []); rw [size_ofL, lst_ofL]; simp⟩
  refine lex_ind ?_ ?_ ?_ ?_ ?_ ?_
  · intro a hl ha L h t ht
    rw [lexT_nil] at h
    obtain rfl := Except.ok.inj h
    rw [List.mem_singleton.1 ht]
    exact e0 a ha
  · intro c r hc ih a hl ha L h
    rw [lexT_blank c r a hc] at h
    have hlt : a < S.length := by
      have := congrArg List.length hl
      simp only [List.length_cons, List.length_drop] at this
      omega
    exact ih (a + 1) (by rw [← List.drop_drop, ← hl]; rfl) (by omega) L h
  · intro c r hc ih a hl ha L h
    rw [lexT_line c r a hc] at h
    obtain ⟨M, hM, rfl⟩ := map_ok h
    have hlt : a < S.length := by
      have := congrArg List.length hl
      simp only [List.length_cons, List.length_drop] at this
      omega
    intro t ht
    rcases List.mem_cons.1 ht with rfl | ht
    · exact ⟨a, rfl, ha, by show (S.drop a).take (ofL []).size = lst (ofL []); rw [size_ofL, lst_ofL]; simp⟩
    · exact ih (a + 1) (by rw [← List.drop_drop, ← hl]; rfl) (by omega) M hM t ht
  · intro c r hc ih a hl ha L h
    rw [lexT_word c r a hc] at h
    obtain ⟨M, hM, rfl⟩ := map_ok h
    have hlen := congrArg List.length (List.takeWhile_append_dropWhile (p := fun x => isLet (ch x)) (l := c :: r))
    have hll := congrArg List.length hl
    rw [List.length_append] at hlen
    rw [List.length_drop] at hll
    intro t ht
    rcases List.mem_cons.1 ht with rfl | ht
    · refine ⟨a, rfl, ha, ?_⟩
      show (S.drop a).take (ofL _).size = lst (ofL _)
      rw [size_ofL, lst_ofL, ← hl, take_while_take]
    · refine ih _ ?_ (by omega) M hM t ht
      rw [← List.drop_drop, ← hl, drop_while_drop]
  · intro c r hc ih a hl ha L h
    rw [lexT_time c r a hc] at h
    split at h
    · obtain ⟨M, hM, rfl⟩ := map_ok h
      have hlen := congrArg List.length (List.takeWhile_append_dropWhile (p := fun x => isBoth (ch x)) (l := c :: r))
      have hll := congrArg List.length hl
      rw [List.length_append] at hlen
      rw [List.length_drop] at hll
      intro t ht
      rcases List.mem_cons.1 ht with rfl | ht
      · refine ⟨a, rfl, ha, ?_⟩
        show (S.drop a).take (ofL _).size = lst (ofL _)
        rw [size_ofL, lst_ofL, ← hl, take_while_take]
      · refine ih _ ?_ (by omega) M hM t ht
        rw [← List.drop_drop, ← hl, drop_while_drop]
    · cases h
  · intro c r h1 h2 h3 h4 a hl ha L h
    rw [lexT_other c r a h1 h2 h3 h4] at h
    cases h
end Go.Proofs.YtonlbeonblpblaaDoor.Pl
