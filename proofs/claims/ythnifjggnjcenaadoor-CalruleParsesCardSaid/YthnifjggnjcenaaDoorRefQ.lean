/-
  The document's answer for Parse (erewhileref34), in plain Lean: the same as the program's, of any text. Condition: texts of at most 100000 bytes.
-/
import Derived.Test.YthnifjggnjcenaaDoorLineP
import Derived.Test.YthnifjggnjcenaaDoorLexB
import Derived.Test.YthnifjggnjcenaaDoorAllx12
/-! ## The document's answer for Parse (erewhileref34), in plain Lean: the same as the program's, of any text. Condition: texts of at most 100000 bytes. -/
namespace Go.Proofs.YthnifjggnjcenaaDoor.Pl
open Go.RowKit Go.Proofs.YthnifjggnjcenaaDoor.All Go.Proofs.YthnifjggnjcenaaDoorW.PrintWords
set_option linter.unusedVariables false
set_option linter.unusedSimpArgs false

/-! ### how far a form goes -/
def fitsG : List ByteArray → List S46 → Nat × Bool
  | [], _ => (0, false)
  | _ :: _, [] => (0, false)
  | w :: ws, t :: T => if fitW w t = true then if t.f0 = 2 then if t.f2 = 0 then (0, true) else ((fitsG ws T).1 + 1, (fitsG ws T).2) else ((fitsG ws T).1 + 1, (fitsG ws T).2) else (0, false)
theorem fitsG_le : ∀ ws T, (fitsG ws T).1 ≤ ws.length
  | [], _ => Nat.le_refl _
  | _ :: _, [] => Nat.zero_le _
  | w :: ws, t :: T => by
    have ih := fitsG_le ws T
    unfold fitsG
    split
    · split
      · split
        · exact Nat.zero_le _
        · simp; omega
      · simp; omega
    · exact Nat.zero_le _
/-- The document's word for the program's. -/
inductive Same1 : ByteArray → ByteArray → Prop
  | time {w : ByteArray} (h : w.toList = [35] ∨ w.toList = [33]) : Same1 ⟨#[84]⟩ w
  | word {w : ByteArray} (h1 : w.toList ≠ [35]) (h2 : w.toList ≠ [33]) (h3 : w.toList ≠ [84]) : Same1 w w
def formL (k : Int) : List ByteArray := if k = 1 then [⟨#[101, 97, 99, 104]⟩, ⟨#[119, 114, 105, 116, 101]⟩, ⟨#[102, 111, 114]⟩, ⟨#[84]⟩] else if k = 2 then [⟨#[101, 97, 99, 104]⟩, ⟨#[84]⟩, ⟨#[102, 111, 114]⟩, ⟨#[84]⟩] else if k = 3 then [⟨#[113, 117, 105, 101, 116]⟩, ⟨#[84]⟩, ⟨#[102, 111, 114]⟩, ⟨#[84]⟩] else [⟨#[110, 101, 118, 101, 114]⟩, ⟨#[97, 102, 116, 101, 114]⟩, ⟨#[84]⟩]
theorem form_f (k : Int) : erewhileref34_Form.f k = some (formL k) := by
  unfold erewhileref34_Form.f formL
  split
  · rfl
  · split
    · rfl
    · split <;> rfl
inductive SameL : List ByteArray → List ByteArray → Prop
  | nil : SameL [] []
  | cons {f w fs ws} (h : Same1 f w) (hs : SameL fs ws) : SameL (f :: fs) (w :: ws)
theorem sw {w : ByteArray} (h : w.toList ≠ [35] ∧ w.toList ≠ [33] ∧ w.toList ≠ [84]) : Same1 w w := .word h.1 h.2.1 h.2.2
theorem same_form {k : Int} (hk : k = 1 ∨ k = 2 ∨ k = 3 ∨ k = 4) : SameL (formL k) (wordL k) := by
  have tH : Same1 ⟨#[84]⟩ wH := .time (.inl (by rw [tl]; rfl))
  have tX : Same1 ⟨#[84]⟩ wX := .time (.inr (by rw [tl]; rfl))
  have s1 : Same1 wE wE := sw (by rw [tl]; decide)
  have s2 : Same1 wW wW := sw (by rw [tl]; decide)
  have s3 : Same1 wF wF := sw (by rw [tl]; decide)
  have s4 : Same1 wQ wQ := sw (by rw [tl]; decide)
  have s5 : Same1 wN wN := sw (by rw [tl]; decide)
  have s6 : Same1 wA wA := sw (by rw [tl]; decide)
  rcases hk with rfl | rfl | rfl | rfl
  · exact .cons s1 (.cons s2 (.cons s3 (.cons tX .nil)))
  · exact .cons s1 (.cons tH (.cons s3 (.cons tX .nil)))
  · exact .cons s4 (.cons tH (.cons s3 (.cons tX .nil)))
  · exact .cons s5 (.cons s6 (.cons tX .nil))
theorem same_len {fs ws} (h : SameL fs ws) : fs.length = ws.length := by
  induction h with
  | nil => rfl
  | cons _ _ ih => simp [ih]
theorem rd_toR (l : List S46) (j : Nat) (h : j < l.length) : rd_T64 (l.map toR) (j : Int) = toR l[j] := by
  show (l.map toR).getD (j : Int).toNat z64 = toR l[j]
  rw [Int.toNat_natCast, List.getD_eq_getElem?_getD, List.getElem?_map, List.getElem?_eq_getElem h]
  rfl
theorem rdOf_at (l : List ByteArray) (j : Nat) (h : j < l.length) : rdOf ByteArray.empty l (j : Int) = l[j] := by
  show l.getD (j : Int).toNat ByteArray.empty = l[j]
  rw [Int.toNat_natCast, List.getD_eq_getElem?_getD, List.getElem?_eq_getElem h]
  rfl
def okR (t : S46) : Prop := t.f0 = 1 → t.f1.toList ≠ [84]
theorem fits_ev (T0 : List S46) (hT0 : ∀ t ∈ T0, okR t) (hlen : T0.length ≤ 100000000) (F : List ByteArray) (hF : F.length ≤ 100) : ∀ (ws fs : List ByteArray) (j : Nat), SameL fs ws → F.drop j = fs → j ≤ F.length →
    Ev (fun k => erewhileref34_fits.l0 k (T0.map toR) F (j : Int)) (((j + (fitsG ws (T0.drop j)).1 : Nat) : Int), (fitsG ws (T0.drop j)).2)
  | [], fs, j, hs, hd, hj => by
    cases hs
    have hle := List.drop_eq_nil_iff.1 hd
    obtain rfl : j = F.length := by omega
    refine ev_succ ?_
    have h1 : ¬ (F.length : Int) < (F.length : Int) := by omega
    simp only [erewhileref34_fits.l0, if_neg h1, fitsG, Nat.add_zero]
    exact ev_some
  | w :: ws, fs, j, hs, hd, hj => by
    cases hs with
    | @cons f _ fs _ h1 hs =>
    have hlt : j < F.length := by
      refine Nat.lt_of_not_le fun h => ?_
      rw [List.drop_eq_nil_of_le h] at hd
      cases hd
    rw [List.drop_eq_getElem_cons hlt, List.cons.injEq] at hd
    refine ev_succ ?_
    have c1 : (j : Int) < (F.length : Int) := by omega
    have c0 : (0 : Int) ≤ (j : Int) := by omega
    simp only [erewhileref34_fits.l0, if_pos c1, if_pos c0, rdOf_at F j hlt, hd.1, List.length_map]
    by_cases hT : j < T0.length
    · have c2 : ¬ (j : Int) ≥ (T0.length : Int) := by omega
      have c3 : (j : Int) < (T0.length : Int) := by omega
      have ht := hT0 T0[j] (List.getElem_mem hT)
      have hdr := List.drop_eq_getElem_cons hT
      have hw1 : wrap64 ((j : Int) + 1) = ((j + 1 : Nat) : Int) := wrap_succ j (by omega)
      have ih := fits_ev T0 hT0 hlen F hF ws fs (j + 1) hs hd.2 (by omega)
      have er : rd_T64 (T0.map toR) (j : Int) = toR T0[j] := rd_toR T0 j hT
      rw [hdr, fitsG]
      simp only [if_neg c2, if_pos c3, er]
      generalize T0[j] = t at *
      have e0 : (toR t).f0 = t.f0 := rfl
      have e1 : (toR t).f1 = t.f1 := rfl
      have e2 : (toR t).f2 = t.f2 := rfl
      simp only [e0]
      have goon : (((j + ((fitsG ws (T0.drop (j + 1))).1 + 1) : Nat) : Int), (fitsG ws (T0.drop (j + 1))).2) = ((((j + 1) + (fitsG ws (T0.drop (j + 1))).1 : Nat) : Int), (fitsG ws (T0.drop (j + 1))).2) := by
        rw [Prod.mk.injEq]
        exact ⟨by omega, rfl⟩
      cases h1 with
      | time h =>
        have h84 : (⟨#[84]⟩ : ByteArray).toList = [84] := by rw [tl]
        have hfit := fitW_time h t
        simp only [h84, if_true]
        refine ev_succ ?_
        simp only [erewhileref34_fits.j1, if_pos c0, List.length_map, if_pos c3, er, e0, e1, e2, if_pos c1, rdOf_at F j hlt, hd.1, h84, hw1]
        by_cases h2 : t.f0 = 2
        · rw [if_pos (hfit.2 h2), if_pos h2]
          have b : (t.f0 == 2) = true := beq_iff_eq.2 h2
          simp only [b, if_true]
          by_cases h3 : t.f2 = 0
          · simp only [if_pos h3, Nat.add_zero]
            exact ev_some
          · simp only [if_neg h3]
            rw [goon]
            exact ih
        · rw [if_neg (fun h' => h2 (hfit.1 h'))]
          have b : (t.f0 == 2) = false := beq_eq_false_iff_ne.2 h2
          simp only [b, Bool.false_eq_true, if_false, Nat.add_zero]
          by_cases h4 : t.f0 = 1
          · simp only [if_pos h4, if_neg (ht h4)]
            exact ev_some
          · simp only [if_neg h4]
            exact ev_some
      | word n1 n2 n3 =>
        have hfit := fitW_word n1 n2 t
        simp only [if_neg n3]
        refine ev_succ ?_
        simp only [erewhileref34_fits.j1, if_pos c0, List.length_map, if_pos c3, er, e0, e1, e2, if_pos c1, rdOf_at F j hlt, hd.1, hw1, Bool.false_eq_true, if_false]
        by_cases h4 : t.f0 = 1
        · simp only [if_pos h4]
          by_cases h5 : t.f1.toList = w.toList
          · rw [if_pos (hfit.2 ⟨h4, h5⟩), if_neg (by omega)]
            simp only [if_pos h5]
            rw [goon]
            exact ih
          · rw [if_neg (fun h' => h5 (hfit.1 h').2)]
            simp only [if_neg h5, Nat.add_zero]
            exact ev_some
        · rw [if_neg (fun h' => h4 (hfit.1 h').1)]
          simp only [if_neg h4, Nat.add_zero]
          exact ev_some
    · have c2 : (j : Int) ≥ (T0.length : Int) := by omega
      rw [List.drop_eq_nil_of_le (by omega)]
      simp only [if_pos c2, fitsG, Nat.add_zero]
      exact ev_some
theorem fits_kind {k : Int} (hk : k = 1 ∨ k = 2 ∨ k = 3 ∨ k = 4) (T : List S46) (hT : ∀ t ∈ T, okR t) (hlen : T.length ≤ 100000000) : Ev (fun q => erewhileref34_fits.f q k (T.map toR)) (((fitsG (wordL k) T).1 : Int), (fitsG (wordL k) T).2) := by
  simp only [erewhileref34_fits.f, form_f, Option.bind_some]
  have h := fits_ev T hT hlen (formL k) (by rw [same_len (same_form hk)]; have := len_le k; omega) (wordL k) (formL k) 0 (same_form hk) rfl (Nat.zero_le _)
  simp only [Nat.zero_add, List.drop_zero] at h
  exact h

/-! ### the form that goes on longest -/
def upd (s : Int × Int × Bool) (k : Int) (p : Nat × Bool) : Int × Int × Bool := if (p.1 : Int) > s.2.1 then (k, p.1, p.2) else if (p.1 : Int) = s.2.1 ∧ p.2 = true then (k, p.1, p.2) else s
def bestF (T : List S46) : Int × Int × Bool := upd (upd (upd (upd (0, -1, false) 1 (fitsG (wordL 1) T)) 2 (fitsG (wordL 2) T)) 3 (fitsG (wordL 3) T)) 4 (fitsG (wordL 4) T)
theorem l1_step (L : List S46) (hL : ∀ t ∈ L, okR t) (hlen : L.length ≤ 10000000) (out : List S33) (i : Nat) (hi : i ≤ L.length) {k : Int} (hk : k = 1 ∨ k = 2 ∨ k = 3 ∨ k = 4) (s : Int × Int × Bool) (R : List S33 × Int × Int)
    (h : Ev (fun q => erewhileref34_Parse.l1 q (L.map toR) out i (upd s k (fitsG (wordL k) (L.drop i))).1 (upd s k (fitsG (wordL k) (L.drop i))).2.1 (upd s k (fitsG (wordL k) (L.drop i))).2.2 (k + 1)) R) :
    Ev (fun q => erewhileref34_Parse.l1 q (L.map toR) out i s.1 s.2.1 s.2.2 k) R := by
  refine ev_succ ?_
  have c1 : k ≤ 4 := by omega
  have c2 : (0 : Int) ≤ (i : Int) := by omega
  have c3 : (i : Int) ≤ (((L.map toR).length : Nat) : Int) := by rw [List.length_map]; omega
  have hw : wrap64 (k + 1) = k + 1 := by unfold wrap64; omega
  simp only [erewhileref34_Parse.l1, if_pos c1, if_pos c2, if_pos c3, Int.toNat_natCast, hw]
  rw [← List.map_drop]
  refine Ev.bind (fits_kind hk (L.drop i) (fun t ht => hL t (List.mem_of_mem_drop ht)) (by rw [List.length_drop]; omega)) ?_
  unfold upd at h
  by_cases c4 : ((fitsG (wordL k) (L.drop i)).1 : Int) > s.2.1
  · rw [if_pos c4] at h
    simp only [if_pos c4]
    exact h
  · rw [if_neg c4] at h
    simp only [if_neg c4]
    by_cases c5 : ((fitsG (wordL k) (L.drop i)).1 : Int) = s.2.1
    · simp only [if_pos c5]
      by_cases c6 : (fitsG (wordL k) (L.drop i)).2 = true
      · rw [if_pos ⟨c5, c6⟩] at h
        simp only [if_pos c6]
        exact h
      · rw [if_neg (fun x => c6 x.2)] at h
        simp only [if_neg c6]
        exact h
    · rw [if_neg (fun x => c5 x.1)] at h
      simp only [if_neg c5]
      exact h
theorem l1_best (L : List S46) (hL : ∀ t ∈ L, okR t) (hlen : L.length ≤ 10000000) (out : List S33) (i : Nat) (hi : i ≤ L.length) (R : List S33 × Int × Int)
    (h : Ev (fun q => erewhileref34_Parse.l1 q (L.map toR) out i (bestF (L.drop i)).1 (bestF (L.drop i)).2.1 (bestF (L.drop i)).2.2 5) R) :
    Ev (fun q => erewhileref34_Parse.l1 q (L.map toR) out i 0 (-1) false 1) R := by
  refine l1_step L hL hlen out i hi (k := 1) (by omega) (0, -1, false) R ?_
  refine l1_step L hL hlen out i hi (k := 2) (by omega) _ R ?_
  refine l1_step L hL hlen out i hi (k := 3) (by omega) _ R ?_
  exact l1_step L hL hlen out i hi (k := 4) (by omega) _ R h
end Go.Proofs.YthnifjggnjcenaaDoor.Pl
/-! ## The document's answer for Parse, to its end: the same as the program's, of any text. Condition: texts of at most 100000 bytes. -/
namespace Go.Proofs.YthnifjggnjcenaaDoor.Pl
open Go.RowKit Go.Proofs.YthnifjggnjcenaaDoor.All Go.Proofs.YthnifjggnjcenaaDoorW.PrintWords
set_option linter.unusedVariables false
set_option linter.unusedSimpArgs false

theorem fitsG_no {w : ByteArray} {ws : List ByteArray} {t : S46} {T : List S46} (h : fitW w t = false) : fitsG (w :: ws) (t :: T) = (0, false) := by
  rw [fitsG, if_neg (by rw [h]; decide)]
theorem fitsG_word {w : ByteArray} {ws : List ByteArray} {t : S46} {T : List S46} (h : fitW w t = true) (h2 : t.f0 ≠ 2) : fitsG (w :: ws) (t :: T) = ((fitsG ws T).1 + 1, (fitsG ws T).2) := by
  rw [fitsG, if_pos h, if_neg h2]
theorem fitsG_time {w : ByteArray} {ws : List ByteArray} {t : S46} {T : List S46} (h : fitW w t = true) (h2 : t.f0 = 2) (h3 : t.f2 ≠ 0) : fitsG (w :: ws) (t :: T) = ((fitsG ws T).1 + 1, (fitsG ws T).2) := by
  rw [fitsG, if_pos h, if_pos h2, if_neg h3]
theorem fitsG_zero {w : ByteArray} {ws : List ByteArray} {t : S46} {T : List S46} (h : fitW w t = true) (h2 : t.f0 = 2) (h3 : t.f2 = 0) : fitsG (w :: ws) (t :: T) = (0, true) := by
  rw [fitsG, if_pos h, if_pos h2, if_pos h3]
theorem upd_more {s : Int × Int × Bool} {k : Int} {p : Nat × Bool} (h : (p.1 : Int) > s.2.1) : upd s k p = (k, (p.1 : Int), p.2) := by
  unfold upd
  rw [if_pos h]
theorem upd_tie {s : Int × Int × Bool} {k : Int} {p : Nat × Bool} (h : (p.1 : Int) = s.2.1) (h2 : p.2 = true) : upd s k p = (k, (p.1 : Int), p.2) := by
  unfold upd
  rw [if_neg (by omega), if_pos ⟨h, h2⟩]
theorem upd_less {s : Int × Int × Bool} {k : Int} {p : Nat × Bool} (h : (p.1 : Int) < s.2.1 ∨ (p.1 : Int) = s.2.1 ∧ p.2 = false) : upd s k p = s := by
  unfold upd
  rw [if_neg (by omega), if_neg]
  rintro ⟨h1, h2⟩
  rcases h with h | h
  · omega
  · rw [h.2] at h2
    cases h2
def fold4 (p1 p2 p3 p4 : Nat × Bool) : Int × Int × Bool := upd (upd (upd (upd (0, -1, false) 1 p1) 2 p2) 3 p3) 4 p4
theorem fold_1 (p1 p2 p3 p4 : Nat × Bool) (h2 : (p2.1 : Int) < p1.1 ∨ (p2.1 : Int) = p1.1 ∧ p2.2 = false) (h3 : (p3.1 : Int) < p1.1 ∨ (p3.1 : Int) = p1.1 ∧ p3.2 = false) (h4 : (p4.1 : Int) < p1.1 ∨ (p4.1 : Int) = p1.1 ∧ p4.2 = false) : fold4 p1 p2 p3 p4 = (1, (p1.1 : Int), p1.2) := by
  unfold fold4
  rw [upd_more (s := (0, -1, false)) (k := 1) (p := p1) (by simp only; omega), upd_less (s := (1, (p1.1 : Int), p1.2)) (k := 2) (p := p2) h2, upd_less (s := (1, (p1.1 : Int), p1.2)) (k := 3) (p := p3) h3, upd_less (s := (1, (p1.1 : Int), p1.2)) (k := 4) (p := p4) h4]
theorem fold_2 (p1 p2 p3 p4 : Nat × Bool) (h2 : (p2.1 : Int) > p1.1 ∨ (p2.1 : Int) = p1.1 ∧ p2.2 = true) (h3 : (p3.1 : Int) < p2.1) (h4 : (p4.1 : Int) < p2.1) : fold4 p1 p2 p3 p4 = (2, (p2.1 : Int), p2.2) := by
  unfold fold4
  rw [upd_more (s := (0, -1, false)) (k := 1) (p := p1) (by simp only; omega)]
  have e : upd (1, (p1.1 : Int), p1.2) 2 p2 = (2, (p2.1 : Int), p2.2) := by
    rcases h2 with h2 | ⟨h2, h5⟩
    · exact upd_more h2
    · exact upd_tie h2 h5
  rw [e, upd_less (s := (2, (p2.1 : Int), p2.2)) (k := 3) (p := p3) (.inl h3), upd_less (s := (2, (p2.1 : Int), p2.2)) (k := 4) (p := p4) (.inl h4)]
theorem fold_3 (p3 p4 : Nat × Bool) (h3 : 0 < p3.1) (h4 : (p4.1 : Int) < p3.1) : fold4 (0, false) (0, false) p3 p4 = (3, (p3.1 : Int), p3.2) := by
  unfold fold4
  rw [upd_more (s := (0, -1, false)) (k := 1) (p := (0, false)) (by simp only; omega), upd_less (s := (1, ((0 : Nat) : Int), false)) (k := 2) (p := (0, false)) (.inr ⟨rfl, rfl⟩), upd_more (s := (1, ((0 : Nat) : Int), false)) (k := 3) (p := p3) (by simp only; omega), upd_less (s := (3, (p3.1 : Int), p3.2)) (k := 4) (p := p4) (.inl h4)]
theorem fold_4 (p4 : Nat × Bool) (h4 : 0 < p4.1) : fold4 (0, false) (0, false) (0, false) p4 = (4, (p4.1 : Int), p4.2) := by
  unfold fold4
  rw [upd_more (s := (0, -1, false)) (k := 1) (p := (0, false)) (by simp only; omega), upd_less (s := (1, ((0 : Nat) : Int), false)) (k := 2) (p := (0, false)) (.inr ⟨rfl, rfl⟩), upd_less (s := (1, ((0 : Nat) : Int), false)) (k := 3) (p := (0, false)) (.inr ⟨rfl, rfl⟩), upd_more (s := (1, ((0 : Nat) : Int), false)) (k := 4) (p := p4) (by simp only; omega)]
theorem fit_excl {t : S46} : (fitW wE t = true → fitW wQ t = false ∧ fitW wN t = false) ∧ (fitW wQ t = true → fitW wN t = false) := by
  constructor
  · intro h
    rw [fE] at h
    constructor
    · cases h' : fitW wQ t with
      | false => rfl
      | true => rw [fQ, h.2] at h'; cases h'.2
    · cases h' : fitW wN t with
      | false => rfl
      | true => rw [fN, h.2] at h'; cases h'.2
  · intro h
    rw [fQ] at h
    cases h' : fitW wN t with
    | false => rfl
    | true => rw [fN, h.2] at h'; cases h'.2
theorem lineK_word {k : Int} {w : ByteArray} {ws : List ByteArray} {t : S46} {T : List S46} {ln fo : Int} (h : fitW w t = true) (h2 : t.f0 ≠ 2) : lineK k (w :: ws) (t :: T) ln fo = lineK k ws T ln fo := by
  rw [lineK, if_pos h, if_neg h2]
theorem lineK_no {k : Int} {w : ByteArray} {ws : List ByteArray} {t : S46} {T : List S46} {ln fo : Int} (h : fitW w t = false) : lineK k (w :: ws) (t :: T) ln fo = .error (t, 3) := by
  rw [lineK, if_neg (by rw [h]; decide)]
/-- The form that goes on longest is the one by which the program goes. -/
theorem best_line {t : S46} {T : List S46} (hT : ending (t :: T)) (h1 : t.f0 ≠ 3 ∧ t.f0 ≠ 0) : ∃ b, (b = 1 ∨ b = 2 ∨ b = 3 ∨ b = 4) ∧ bestF (t :: T) = (b, ((fitsG (wordL b) (t :: T)).1 : Int), (fitsG (wordL b) (t :: T)).2) ∧ lineS (t :: T) = lineK b (wordL b) (t :: T) 0 0 := by
  have hT1 := ending_tail hT h1.2
  rw [show bestF (t :: T) = fold4 (fitsG (wordL 1) (t :: T)) (fitsG (wordL 2) (t :: T)) (fitsG (wordL 3) (t :: T)) (fitsG (wordL 4) (t :: T)) from rfl, lineS]
  by_cases hE : fitW wE t = true
  · obtain ⟨hQ, hN⟩ := fit_excl.1 hE
    have hk := word_kind (.inl hE)
    have hk2 : t.f0 ≠ 2 := by omega
    rw [if_pos hE]
    rw [word1, word2, word3, word4, fitsG_no hQ, fitsG_no hN, fitsG_word hE hk2, fitsG_word hE hk2]
    cases T with
    | nil =>
      obtain ⟨M, e, h, _⟩ := hT1
      simp at h
    | cons t1 T1 =>
      rw [lineE]
      by_cases hW : fitW wW t1 = true
      · have hk1 := ((fWr t1).1 hW).1
        have hH : fitW wH t1 = false := by
          cases h : fitW wH t1 with
          | false => rfl
          | true => rw [fH] at h; omega
        refine ⟨1, by omega, ?_, ?_⟩
        · rw [fitsG_no hH, fitsG_word hW (by omega), word1, fitsG_word hE hk2, fitsG_word hW (by omega)]
          exact fold_1 _ _ _ _ (.inl (by simp only; omega)) (.inl (by simp only; omega)) (.inl (by simp only; omega))
        · rw [if_pos hW, word1, lineK_word hE hk2, lineK_word hW (by omega)]
      · have hW' : fitW wW t1 = false := by simpa using hW
        rw [if_neg hW]
        by_cases h2 : t1.f0 = 2
        · have hH := (fH t1).2 h2
          refine ⟨2, by omega, ?_, ?_⟩
          · rw [fitsG_no hW', word2, fitsG_word hE hk2]
            by_cases h3 : t1.f2 = 0
            · rw [fitsG_zero hH h2 h3]
              exact fold_2 _ _ _ _ (.inr ⟨rfl, rfl⟩) (by simp only; omega) (by simp only; omega)
            · rw [fitsG_time hH h2 h3]
              exact fold_2 _ _ _ _ (.inl (by simp only; omega)) (by simp only; omega) (by simp only; omega)
          · rw [if_pos h2, word2, lineK_word hE hk2, lineK, if_pos hH, if_pos h2]
            by_cases h3 : t1.f2 = 0
            · rw [if_pos h3, if_pos h3]
            · have e35 : wH.toList = [35] := by rw [tl]; rfl
              rw [if_neg h3, if_neg h3, if_pos e35, if_pos e35]
        · have hH : fitW wH t1 = false := by
            cases h : fitW wH t1 with
            | false => rfl
            | true => rw [fH] at h; omega
          refine ⟨1, by omega, ?_, ?_⟩
          · rw [fitsG_no hH, fitsG_no hW', word1, fitsG_word hE hk2, fitsG_no hW']
            exact fold_1 _ _ _ _ (.inr ⟨rfl, rfl⟩) (.inl (by simp only; omega)) (.inl (by simp only; omega))
          · rw [if_neg h2, word1, lineK_word hE hk2, lineK_no hW']
  · have hE' : fitW wE t = false := by simpa using hE
    rw [if_neg hE, word1, word2, fitsG_no hE', fitsG_no hE']
    by_cases hQ : fitW wQ t = true
    · have hN := fit_excl.2 hQ
      have hk := word_kind (.inr (.inl hQ))
      have hk2 : t.f0 ≠ 2 := by omega
      refine ⟨3, by omega, ?_, ?_⟩
      · rw [word3, word4, fitsG_no hN, fitsG_word hQ hk2]
        exact fold_3 _ _ (by simp only; omega) (by simp only; omega)
      · rw [if_pos hQ, word3, lineK_word hQ hk2]
    · have hQ' : fitW wQ t = false := by simpa using hQ
      rw [if_neg hQ, word3, fitsG_no hQ']
      by_cases hN : fitW wN t = true
      · have hk := word_kind (.inr (.inr hN))
        have hk2 : t.f0 ≠ 2 := by omega
        refine ⟨4, by omega, ?_, ?_⟩
        · rw [word4, fitsG_word hN hk2]
          exact fold_4 _ (by simp only; omega)
        · rw [if_pos hN, word4, lineK_word hN hk2]
      · have hN' : fitW wN t = false := by simpa using hN
        refine ⟨1, by omega, ?_, ?_⟩
        · rw [word4, fitsG_no hN', word1, fitsG_no hE']
          exact fold_1 _ _ _ _ (.inr ⟨rfl, rfl⟩) (.inr ⟨rfl, rfl⟩) (.inr ⟨rfl, rfl⟩)
        · rw [if_neg hN, word1, lineK_no hE']

/-! ### a form and a line -/
/-- The line's times. -/
def ft : List ByteArray → List S46 → Int → Int → Int × Int
  | w :: ws, t :: T, ln, fo => if t.f0 = 2 then ft ws T (if w.toList = [35] then t.f2 else ln) (if w.toList = [35] then fo else t.f2) else ft ws T ln fo
  | _, _, ln, fo => (ln, fo)
theorem lineK_fits (k : Int) : ∀ (ws : List ByteArray) (T : List S46) (ln fo : Int), ending T →
    ∃ t T', T.drop (fitsG ws T).1 = t :: T' ∧ lineK k ws T ln fo = if (fitsG ws T).2 = true then .error (t, 2) else if (fitsG ws T).1 < ws.length then .error (t, 3) else if t.f0 ≠ 3 ∧ t.f0 ≠ 0 then .error (t, 3) else .ok (⟨k, (ft ws T ln fo).1, (ft ws T ln fo).2⟩, T')
  | ws, [], ln, fo, hT => by
    obtain ⟨M, e, h, _⟩ := hT
    simp at h
  | [], t :: T, ln, fo, hT => by
    refine ⟨t, T, rfl, ?_⟩
    have e : ft [] (t :: T) ln fo = (ln, fo) := by
      unfold ft
      rfl
    rw [fitsG, lineK, e]
    by_cases h : t.f0 ≠ 3 ∧ t.f0 ≠ 0
    · rw [if_pos h, if_neg (by simp), if_neg (by simp)]
    · rw [if_neg h, if_neg (by simp), if_neg (by simp)]
  | w :: ws, t :: T, ln, fo, hT => by
    by_cases hf : fitW w t = true
    · have ht0 : t.f0 ≠ 0 := fun h0 => by
        rw [fitW_end (by omega)] at hf
        cases hf
      have hT1 := ending_tail hT ht0
      by_cases h2 : t.f0 = 2
      · by_cases h3 : t.f2 = 0
        · refine ⟨t, T, by rw [fitsG_zero hf h2 h3]; rfl, ?_⟩
          rw [fitsG_zero hf h2 h3, lineK, if_pos hf, if_pos h2, if_pos h3, if_pos rfl]
        · obtain ⟨u, T', e1, e2⟩ := lineK_fits k ws T (if w.toList = [35] then t.f2 else ln) (if w.toList = [35] then fo else t.f2) hT1
          refine ⟨u, T', by rw [fitsG_time hf h2 h3, List.drop_succ_cons]; exact e1, ?_⟩
          rw [fitsG_time hf h2 h3, lineK, if_pos hf, if_pos h2, if_neg h3, e2, ft, if_pos h2]
          simp only [List.length_cons, Nat.add_lt_add_iff_right]
      · obtain ⟨u, T', e1, e2⟩ := lineK_fits k ws T ln fo hT1
        refine ⟨u, T', by rw [fitsG_word hf h2, List.drop_succ_cons]; exact e1, ?_⟩
        rw [fitsG_word hf h2, lineK, if_pos hf, if_neg h2, e2, ft, if_neg h2]
        simp only [List.length_cons, Nat.add_lt_add_iff_right]
    · have hf' : fitW w t = false := by simpa using hf
      refine ⟨t, T, by rw [fitsG_no hf']; rfl, ?_⟩
      rw [fitsG_no hf', lineK_no hf', if_neg (by decide), if_pos (by simp)]
theorem fits_all : ∀ (ws : List ByteArray) (T : List S46), (fitsG ws T).1 = ws.length → (fitsG ws T).2 = false → ∃ ts T', T = ts ++ T' ∧ ts.length = ws.length ∧ ∀ (j : Nat) (w : ByteArray), ws[j]? = some w → ∃ t : S46, ts[j]? = some t ∧ fitW w t = true ∧ (t.f0 = 2 → t.f2 ≠ 0)
  | [], T, _, _ => ⟨[], T, rfl, rfl, fun j w h => by simp at h⟩
  | w :: ws, [], h, _ => by simp [fitsG] at h
  | w :: ws, t :: T, h, h' => by
    by_cases hf : fitW w t = true
    · have go : (t.f0 = 2 → t.f2 ≠ 0) → fitsG (w :: ws) (t :: T) = ((fitsG ws T).1 + 1, (fitsG ws T).2) → ∃ ts T', t :: T = ts ++ T' ∧ ts.length = (w :: ws).length ∧ ∀ (j : Nat) (x : ByteArray), (w :: ws)[j]? = some x → ∃ u : S46, ts[j]? = some u ∧ fitW x u = true ∧ (u.f0 = 2 → u.f2 ≠ 0) := fun h0 e => by
        rw [e] at h h'
        simp only [List.length_cons, Nat.add_right_cancel_iff] at h
        obtain ⟨ts, T', e1, e2, e3⟩ := fits_all ws T h h'
        refine ⟨t :: ts, T', by rw [e1]; rfl, by simp [e2], fun j x hx => ?_⟩
        cases j with
        | zero =>
          simp only [List.getElem?_cons_zero, Option.some.injEq] at hx ⊢
          subst hx
          exact ⟨t, rfl, hf, h0⟩
        | succ j =>
          simp only [List.getElem?_cons_succ] at hx ⊢
          exact e3 j x hx
      by_cases h2 : t.f0 = 2
      · by_cases h3 : t.f2 = 0
        · rw [fitsG_zero hf h2 h3] at h'
          cases h'
        · exact go (fun _ => h3) (fitsG_time hf h2 h3)
      · exact go (fun x => absurd x h2) (fitsG_word hf h2)
    · have hf' : fitW w t = false := by simpa using hf
      rw [fitsG_no hf'] at h
      simp at h

/-! ### the whole -/
theorem drop_at {L : List S46} {j : Nat} {u : S46} {T : List S46} (h : L.drop j = u :: T) : ∃ hj : j < L.length, L[j] = u ∧ L.drop (j + 1) = T := by
  have hj : j < L.length := by
    refine Nat.lt_of_not_le fun hle => ?_
    rw [List.drop_eq_nil_of_le hle] at h
    cases h
  rw [List.drop_eq_getElem_cons hj, List.cons.injEq] at h
  exact ⟨hj, h.1, h.2⟩
/-- A whole line's times, by its kind. -/
theorem ft_kind {b : Int} (hb : b = 1 ∨ b = 2 ∨ b = 3 ∨ b = 4) {T : List S46} (h1 : (fitsG (wordL b) T).1 = (wordL b).length) (h2 : (fitsG (wordL b) T).2 = false) :
    ∃ x, T[(wordL b).length - 1]? = some x ∧ (ft (wordL b) T 0 0).2 = x.f2 ∧ ((b = 1 ∨ b = 4) ∧ (ft (wordL b) T 0 0).1 = 0 ∨ (b = 2 ∨ b = 3) ∧ ∃ y, T[1]? = some y ∧ (ft (wordL b) T 0 0).1 = y.f2) := by
  obtain ⟨ts, T', rfl, hl, hf⟩ := fits_all _ _ h1 h2
  have e35 : wH.toList = [35] := by rw [tl]; rfl
  have n35 : ¬ wX.toList = [35] := by rw [tl]; decide
  rcases hb with rfl | rfl | rfl | rfl
  · rw [word1] at hl hf ⊢
    match ts, hl with
    | [t0, t1, t2, t3], _ =>
      obtain ⟨_, e0, f0, _⟩ := hf 0 wE rfl
      obtain ⟨_, e1, f1, _⟩ := hf 1 wW rfl
      obtain ⟨_, e2, f2, _⟩ := hf 2 wF rfl
      obtain ⟨_, e3, f3, _⟩ := hf 3 wX rfl
      cases e0; cases e1; cases e2; cases e3
      have k0 := ((fE _).1 f0).1
      have k1 := ((fWr _).1 f1).1
      have k2 : t2.f0 = 1 := ((fitW_word (w := wF) (by rw [tl]; decide) (by rw [tl]; decide) t2).1 f2).1
      have k3 := (fX _).1 f3
      refine ⟨t3, rfl, ?_, .inl ⟨by omega, ?_⟩⟩
      · simp only [List.cons_append, ft, if_neg (show ¬ t0.f0 = 2 by omega), if_neg (show ¬ t1.f0 = 2 by omega), if_neg (show ¬ t2.f0 = 2 by omega), if_pos k3, if_neg n35]
      · simp only [List.cons_append, ft, if_neg (show ¬ t0.f0 = 2 by omega), if_neg (show ¬ t1.f0 = 2 by omega), if_neg (show ¬ t2.f0 = 2 by omega), if_pos k3, if_neg n35]
  · rw [word2] at hl hf ⊢
    match ts, hl with
    | [t0, t1, t2, t3], _ =>
      obtain ⟨_, e0, f0, _⟩ := hf 0 wE rfl
      obtain ⟨_, e1, f1, _⟩ := hf 1 wH rfl
      obtain ⟨_, e2, f2, _⟩ := hf 2 wF rfl
      obtain ⟨_, e3, f3, _⟩ := hf 3 wX rfl
      cases e0; cases e1; cases e2; cases e3
      have k0 := ((fE _).1 f0).1
      have k1 := (fH _).1 f1
      have k2 : t2.f0 = 1 := ((fitW_word (w := wF) (by rw [tl]; decide) (by rw [tl]; decide) t2).1 f2).1
      have k3 := (fX _).1 f3
      refine ⟨t3, rfl, ?_, .inr ⟨by omega, t1, rfl, ?_⟩⟩
      · simp only [List.cons_append, ft, if_neg (show ¬ t0.f0 = 2 by omega), if_pos k1, if_pos e35, if_neg (show ¬ t2.f0 = 2 by omega), if_pos k3, if_neg n35]
      · simp only [List.cons_append, ft, if_neg (show ¬ t0.f0 = 2 by omega), if_pos k1, if_pos e35, if_neg (show ¬ t2.f0 = 2 by omega), if_pos k3, if_neg n35]
  · rw [word3] at hl hf ⊢
    match ts, hl with
    | [t0, t1, t2, t3], _ =>
      obtain ⟨_, e0, f0, _⟩ := hf 0 wQ rfl
      obtain ⟨_, e1, f1, _⟩ := hf 1 wH rfl
      obtain ⟨_, e2, f2, _⟩ := hf 2 wF rfl
      obtain ⟨_, e3, f3, _⟩ := hf 3 wX rfl
      cases e0; cases e1; cases e2; cases e3
      have k0 := ((fQ _).1 f0).1
      have k1 := (fH _).1 f1
      have k2 : t2.f0 = 1 := ((fitW_word (w := wF) (by rw [tl]; decide) (by rw [tl]; decide) t2).1 f2).1
      have k3 := (fX _).1 f3
      refine ⟨t3, rfl, ?_, .inr ⟨by omega, t1, rfl, ?_⟩⟩
      · simp only [List.cons_append, ft, if_neg (show ¬ t0.f0 = 2 by omega), if_pos k1, if_pos e35, if_neg (show ¬ t2.f0 = 2 by omega), if_pos k3, if_neg n35]
      · simp only [List.cons_append, ft, if_neg (show ¬ t0.f0 = 2 by omega), if_pos k1, if_pos e35, if_neg (show ¬ t2.f0 = 2 by omega), if_pos k3, if_neg n35]
  · rw [word4] at hl hf ⊢
    match ts, hl with
    | [t0, t1, t2], _ =>
      obtain ⟨_, e0, f0, _⟩ := hf 0 wN rfl
      obtain ⟨_, e1, f1, _⟩ := hf 1 wA rfl
      obtain ⟨_, e2, f2, _⟩ := hf 2 wX rfl
      cases e0; cases e1; cases e2
      have k0 := ((fN _).1 f0).1
      have k1 : t1.f0 = 1 := ((fitW_word (w := wA) (by rw [tl]; decide) (by rw [tl]; decide) t1).1 f1).1
      have k2 := (fX _).1 f2
      refine ⟨t2, rfl, ?_, .inl ⟨by omega, ?_⟩⟩
      · simp only [List.cons_append, ft, if_neg (show ¬ t0.f0 = 2 by omega), if_neg (show ¬ t1.f0 = 2 by omega), if_pos k2, if_neg n35]
      · simp only [List.cons_append, ft, if_neg (show ¬ t0.f0 = 2 by omega), if_neg (show ¬ t1.f0 = 2 by omega), if_pos k2, if_neg n35]
theorem len_form (b : Int) (hb : b = 1 ∨ b = 2 ∨ b = 3 ∨ b = 4) : (formL b).length = (wordL b).length := same_len (same_form hb)
theorem ending_drop {L : List S46} (h : ending L) (j : Nat) (hj : j < L.length) : ending (L.drop j) := by
  obtain ⟨M, e, rfl, he, hM⟩ := h
  rw [List.length_append, List.length_singleton] at hj
  rw [List.drop_append_of_le_length (by omega)]
  exact ⟨M.drop j, e, rfl, he, fun t ht => hM t (List.mem_of_mem_drop ht)⟩
theorem toL (s : ByteArray) : s.toList = lst s := ByteArray.toList_eq s
theorem ref_line (L : List S46) (hL : ∀ t ∈ L, okR t) (hlen : L.length ≤ 1000000) (out : List S33) (ho : out.length < 16) (i : Nat) {t : S46} {T : List S46} (hd : L.drop i = t :: T) (hT : ending (t :: T)) (h1 : t.f0 ≠ 3 ∧ t.f0 ≠ 0)
    (next : ∀ (j : Nat) (u : S46) (T' : List S46) (r : S33), i < j → L.drop j = u :: T' → ¬ (u.f0 ≠ 3 ∧ u.f0 ≠ 0) → Ev (fun q => erewhileref34_Parse.l0 q (L.map toR) (out ++ [r]) (j : Int)) (outP (runP T' ⟨0, 0, 0, 0, out ++ [r]⟩))) :
    Ev (fun q => erewhileref34_Parse.l1 q (L.map toR) out i 0 (-1) false 1) (outP (goOn out (lineS (t :: T)))) := by
  obtain ⟨hi, hti, hdi⟩ := drop_at hd
  refine l1_best L hL (by omega) out i (by omega) _ ?_
  rw [hd]
  obtain ⟨b, hb, hbest, hline⟩ := best_line hT h1
  obtain ⟨u, T', hu, hk⟩ := lineK_fits b (wordL b) (t :: T) 0 0 hT
  rw [hbest, hline, hk]
  have hfl := fitsG_le (wordL b) (t :: T)
  have hl4 := len_le b
  have hft := fun h1 h2 => ft_kind hb (T := t :: T) h1 h2
  generalize hn : (fitsG (wordL b) (t :: T)).1 = n at *
  generalize hz : (fitsG (wordL b) (t :: T)).2 = z at *
  generalize hft0 : ft (wordL b) (t :: T) 0 0 = F at *
  have huL : L.drop (i + n) = u :: T' := by rw [← List.drop_drop, hd]; exact hu
  obtain ⟨hj, huj, hdj⟩ := drop_at huL
  have er : rd_T64 (L.map toR) ((i + n : Nat) : Int) = toR u := by rw [rd_toR L (i + n) hj, huj]
  refine ev_succ ?_
  have c1 : ¬ (5 : Int) ≤ 4 := by decide
  have w1 : Aside0 (wrap64 ((i : Int) + (n : Int)) = ((i + n : Nat) : Int)) := ⟨by unfold wrap64; omega⟩
  have c2 : (0 : Int) ≤ ((i + n : Nat) : Int) := by omega
  have c3 : ((i + n : Nat) : Int) < (((L.map toR).length : Nat) : Int) := by rw [List.length_map]; omega
  simp only [erewhileref34_Parse.l1, if_neg c1, w1.out, if_pos c2, if_pos c3, er, form_f, Option.bind_some]
  have e0 : (toR u).f0 = u.f0 := rfl
  have e3 : (toR u).f3 = u.f3 := rfl
  simp only [e0, e3]
  cases z with
  | true =>
    simp only [if_true]
    exact ev_some
  | false =>
    simp only [Bool.false_eq_true, if_false, len_form b hb]
    by_cases c4 : n < (wordL b).length
    · have c4' : (n : Int) < ((wordL b).length : Int) := by omega
      simp only [if_pos c4, if_pos c4']
      exact ev_some
    · have c4' : ¬ (n : Int) < ((wordL b).length : Int) := by omega
      have hnl : n = (wordL b).length := by omega
      simp only [if_neg c4, if_neg c4']
      have tail : ∀ q : Bool, q = decide (u.f0 ≠ 3 ∧ u.f0 ≠ 0) → Ev (fun k => erewhileref34_Parse.j2 k (L.map toR) out i b n q) (outP (goOn out (if u.f0 ≠ 3 ∧ u.f0 ≠ 0 then .error (u, 3) else .ok (⟨b, F.1, F.2⟩, T')))) := by
        rintro q rfl
        refine ev_succ ?_
        by_cases c5 : u.f0 ≠ 3 ∧ u.f0 ≠ 0
        · have d5 : decide (u.f0 ≠ 3 ∧ u.f0 ≠ 0) = true := decide_eq_true c5
          simp only [erewhileref34_Parse.j2, d5, if_true, w1.out, if_pos c2, if_pos c3, er, e3, if_pos c5]
          exact ev_some
        · have d5 : decide (u.f0 ≠ 3 ∧ u.f0 ≠ 0) = false := decide_eq_false c5
          obtain ⟨x, hx, hfo, hln⟩ := hft hnl rfl
          have hwl : 3 ≤ (wordL b).length := by rcases hb with rfl | rfl | rfl | rfl <;> decide
          have w2 : Aside0 (wrap64 (((i + n : Nat) : Int) - 1) = ((i + (n - 1) : Nat) : Int)) := ⟨by unfold wrap64; omega⟩
          have c6 : (0 : Int) ≤ ((i + (n - 1) : Nat) : Int) := by omega
          have c7 : ((i + (n - 1) : Nat) : Int) < (((L.map toR).length : Nat) : Int) := by rw [List.length_map]; omega
          have at_ : ∀ m y, (t :: T)[m]? = some y → ∃ h : i + m < L.length, L[i + m] = y := fun m y hy => by
            rw [← hd, List.getElem?_drop] at hy
            exact List.getElem?_eq_some_iff.1 hy
          obtain ⟨hx1, hx2⟩ := at_ _ _ hx
          have erx : rd_T64 (L.map toR) ((i + (n - 1) : Nat) : Int) = toR x := by
            rw [rd_toR L _ (by omega)]
            congr 1
            rw [← hx2]
            congr 1
            omega
          have e2 : (toR x).f2 = x.f2 := rfl
          have c8 : out.length < 5864062014805 := by omega
          have hnx := next (i + n) u T' ⟨b, F.1, F.2⟩ (by omega) huL c5
          have hgo : goOn out (.ok (⟨b, F.1, F.2⟩, T')) = runP T' ⟨0, 0, 0, 0, out ++ [⟨b, F.1, F.2⟩]⟩ := rfl
          simp only [erewhileref34_Parse.j2, d5, Bool.false_eq_true, if_false, w1.out, w2.out, if_pos c6, if_pos c7, erx, e2, if_pos c8, if_neg c5, hgo]
          rcases hln with ⟨hb', hl0⟩ | ⟨hb', y, hy, hl0⟩
          · have n2 : ¬ b = 2 := by omega
            have n3 : ¬ b = 3 := by omega
            simp only [if_neg n2, if_neg n3]
            rw [hfo, hl0] at hnx
            rw [hfo, hl0]
            exact hnx
          · obtain ⟨hy1, hy2⟩ := at_ _ _ hy
            have w3 : Aside0 (wrap64 ((i : Int) + 1) = ((i + 1 : Nat) : Int)) := ⟨by unfold wrap64; omega⟩
            have c9 : (0 : Int) ≤ ((i + 1 : Nat) : Int) := by omega
            have c10 : ((i + 1 : Nat) : Int) < (((L.map toR).length : Nat) : Int) := by rw [List.length_map]; omega
            have ery : rd_T64 (L.map toR) ((i + 1 : Nat) : Int) = toR y := by rw [rd_toR L _ hy1, hy2]
            have e2y : (toR y).f2 = y.f2 := rfl
            rw [hfo, hl0] at hnx
            rw [hfo, hl0]
            by_cases n2 : b = 2
            · simp only [if_pos n2, w3.out, if_pos c9, if_pos c10, ery, e2y]
              exact hnx
            · have n3 : b = 3 := by omega
              simp only [if_neg n2, if_pos n3, w3.out, if_pos c9, if_pos c10, ery, e2y]
              exact hnx
      by_cases c5 : u.f0 = 3
      · simp only [if_pos c5]
        exact tail false (by rw [decide_eq_false]; exact fun h => h.1 c5)
      · simp only [if_neg c5]
        refine tail _ ?_
        by_cases c6 : u.f0 = 0
        · rw [bne_eq_false_iff_eq.2 c6, decide_eq_false]
          exact fun h => h.2 c6
        · rw [bne_iff_ne.2 c6, decide_eq_true ⟨c5, c6⟩]
theorem refp_l0 (L : List S46) (hL : ∀ t ∈ L, okR t) (hlen : L.length ≤ 1000000) (hEn : ending L) : ∀ (m i : Nat) (out : List S33), L.length - i ≤ m → ending (L.drop i) → out.length ≤ 16 →
    Ev (fun q => erewhileref34_Parse.l0 q (L.map toR) out (i : Int)) (outP (runP (L.drop i) ⟨0, 0, 0, 0, out⟩)) := by
  intro m
  induction m with
  | zero =>
    intro i out hm hT ho
    rw [List.drop_eq_nil_of_le (by omega)] at hT
    obtain ⟨M, e, h, _⟩ := hT
    simp at h
  | succ m ih =>
    intro i out hm hT ho
    cases hd : L.drop i with
    | nil =>
      rw [hd] at hT
      obtain ⟨M, e, h, _⟩ := hT
      simp at h
    | cons t T =>
      rw [hd] at hT
      obtain ⟨hi, hti, hdi⟩ := drop_at hd
      have er : rd_T64 (L.map toR) (i : Int) = toR t := by rw [rd_toR L i hi, hti]
      have c0 : (0 : Int) ≤ (i : Int) := by omega
      have c1 : (i : Int) < (((L.map toR).length : Nat) : Int) := by rw [List.length_map]; omega
      have e0 : (toR t).f0 = t.f0 := rfl
      have e3 : (toR t).f3 = t.f3 := rfl
      have w1 : Aside0 (wrap64 ((i : Int) + 1) = ((i + 1 : Nat) : Int)) := ⟨by unfold wrap64; omega⟩
      refine ev_succ ?_
      simp only [erewhileref34_Parse.l0, if_pos c0, if_pos c1, er, e0, e3, w1.out]
      by_cases h0 : t.f0 = 0
      · have hTn : T = [] := by
          obtain ⟨M, e, h, he, hM⟩ := hT
          cases M with
          | nil =>
            simp only [List.nil_append, List.cons.injEq] at h
            exact h.2
          | cons x M =>
            simp only [List.cons_append, List.cons.injEq] at h
            rcases hM x (.head _) with hx | hx | hx
            · rw [← h.1] at hx; omega
            · rw [← h.1] at hx; omega
            · rw [← h.1] at hx; omega
        simp only [if_pos h0]
        rw [hTn]
        have : outP (runP [t] ⟨0, 0, 0, 0, out⟩) = (out, 0, 0) := by
          rw [runP, stepP, if_neg (fun h => h.2 h0), if_pos rfl]
          rfl
        rw [this]
        exact ev_some
      · have hT1 := ending_tail hT h0
        simp only [if_neg h0]
        by_cases h3 : t.f0 = 3
        · simp only [if_pos h3]
          have := ih (i + 1) out (by omega) (by rw [hdi]; exact hT1) ho
          rw [hdi] at this
          rw [runP, stepP, if_neg (fun h => h.1 h3), if_pos rfl]
          exact this
        · simp only [if_neg h3]
          by_cases h16 : out.length = 16
          · have h16' : (out.length : Int) = 16 := by omega
            simp only [if_pos h16']
            rw [runP, stepP, if_pos ⟨h3, h0⟩, if_pos ⟨rfl, by simp only; omega⟩]
            exact ev_some
          · have h16' : ¬ (out.length : Int) = 16 := by omega
            simp only [if_neg h16']
            rw [run_line hT ⟨h3, h0⟩ out (by omega)]
            refine ref_line L hL hlen out (by omega) i hd hT ⟨h3, h0⟩ ?_
            intro j u T' r hij hj hu
            have hend : ending (L.drop j) := ending_drop hEn j (drop_at hj).1
            have := ih j (out ++ [r]) (by omega) hend (by rw [List.length_append]; simp; omega)
            rw [hj, runP, stepP, if_neg hu, if_pos rfl] at this
            exact this
theorem okT_okR {L : List S46} (h : ending L) : ∀ t ∈ L, okR t := fun t ht h1 => by
  obtain ⟨M, e, rfl, he, hM⟩ := h
  rcases List.mem_append.1 ht with ht | ht
  · rcases hM t ht with ⟨_, hl⟩ | ⟨h2, _⟩ | h2
    · intro h84
      have : (84 : UInt8) ∈ lst t.f1 := by
        rw [← toL t.f1, h84]
        simp
      have := hl 84 this
      revert this
      decide
    · omega
    · omega
  · rw [List.mem_singleton.1 ht] at h1
    omega
theorem rparse_ev (s : ByteArray) (hs : s.size ≤ 100000) : Ev (fun k => erewhileref34_Parse.f k s) (parseS s) := by
  simp only [erewhileref34_Parse.f]
  refine Ev.bind (rlex_ev s hs) ?_
  rw [parseS_lst, lexS_lst]
  cases hX : lexT (lst s) 0 with
  | error j =>
    have e : conv (outL [] (.error j : Except Nat (List S46))) = ([], (j : Int)) := by simp [conv, outL]
    rw [e]
    simp only [if_pos (show (j : Int) ≥ 0 by omega)]
    exact ev_some
  | ok L =>
    have e : conv (outL [] (.ok L : Except Nat (List S46))) = (L.map toR, -1) := by simp [conv, outL]
    rw [e]
    simp only [if_neg (show ¬ (-1 : Int) ≥ 0 by decide)]
    have hEn := lexT_ending _ _ _ hX
    obtain ⟨b1, b2, b3⟩ := lexT_bounds _ _ _ hX
    rw [lst_len] at b2
    have h := refp_l0 L (okT_okR hEn) (by omega) hEn L.length 0 [] (by omega) hEn (by simp)
    rw [List.drop_zero, ← parseC_run] at h
    exact h
end Go.Proofs.YthnifjggnjcenaaDoor.Pl
