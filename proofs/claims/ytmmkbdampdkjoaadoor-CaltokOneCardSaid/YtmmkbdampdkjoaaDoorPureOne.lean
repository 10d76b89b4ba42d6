/-
  The law CaltokOne in plain Lean: it tells true of any number, word and letter.
-/
import Derived.Test.YtmmkbdampdkjoaaDoorPureSums
import Derived.Test.YtmmkbdampdkjoaaDoorAllx15
namespace Go.Proofs.YtmmkbdampdkjoaaDoor.Pl
open Go.RowKit Go.Proofs.YtmmkbdampdkjoaaDoor.All Go.Proofs.YtmmkbdampdkjoaaDoorW.PrintWords
set_option linter.unusedVariables false
set_option linter.unusedSimpArgs false

theorem take_all {α : Type} (p : α → Bool) : ∀ l : List α, (∀ x ∈ l, p x = true) → l.takeWhile p = l ∧ l.dropWhile p = []
  | [], _ => ⟨rfl, rfl⟩
  | x :: l, h => by
    have hx := h x (by simp)
    obtain ⟨h1, h2⟩ := take_all p l (fun y hy => h y (by simp [hy]))
    rw [List.takeWhile_cons, List.dropWhile_cons, if_pos hx, if_pos hx, h1, h2]
    exact ⟨rfl, rfl⟩
theorem text_both (n : Nat) : ∀ x ∈ textL n, isBoth (ch x) = true := by
  intro x hx
  unfold textL at hx
  rcases List.mem_append.1 hx with hx | hx
  · simp [isBoth, dec_all _ x hx]
  · rw [List.mem_singleton.1 hx]
    simp [isBoth, (unit_ok n).2.2.2]
theorem time_alone (n : Nat) (hn : n ≤ 1073741824) (a : Nat) : lexT (textL n) a = .ok [⟨2, ofL (textL n), (n : Int), (a : Int)⟩, ⟨0, ofL [], 0, ((a + (textL n).length : Nat) : Int)⟩] := by
  obtain ⟨c, r, e, hd, _⟩ := textL_cons n
  have hb := take_all (fun x => isBoth (ch x)) (textL n) (text_both n)
  have hm := minuL_text n hn
  rw [e] at hb hm ⊢
  rw [lexT_time c r a hd, hb.1, hb.2, hm, if_pos rfl]
  rfl
theorem time_spoilt (n : Nat) (x : UInt8) (hx : isLet (ch x) = true) (a : Nat) : lexT (textL n ++ [x]) a = .error a := by
  have hm : (minuL (textL n ++ [x])).2 = false := by
    unfold minuL
    have h1 : (textL n ++ [x]).getLast? = some x := by simp
    have h2 : (textL n ++ [x]).dropLast = textL n := by simp
    rw [h1, h2]
    cases (textL n ++ [x]).head? with
    | none => rfl
    | some c =>
      simp only
      split
      · rfl
      · split
        · rfl
        · have h3 : ∀ ok : Bool, minL ok (textL n) 0 = none := by
            intro ok
            cases ok with
            | false =>
              obtain ⟨c, r, e, _⟩ := textL_cons n
              rw [e]
              rfl
            | true =>
              unfold textL
              rw [minL_append, (unit_ok n).2.2.1]
              cases minL true (Lib.decDigits (numOf n)) 0 <;> rfl
          rw [h3]
          rfl
  obtain ⟨c, r, e, hd, _⟩ := textL_cons n
  have hb := take_all (fun x => isBoth (ch x)) (textL n ++ [x]) (by
    intro y hy
    rcases List.mem_append.1 hy with hy | hy
    · exact text_both n y hy
    · rw [List.mem_singleton.1 hy]
      simp [isBoth, hx])
  rw [e, List.cons_append] at hb hm ⊢
  rw [lexT_time c _ a hd, hb.1, hb.2, hm]
  rfl
theorem word_alone (l : List UInt8) (hl : l ≠ []) (h : ∀ x ∈ l, isLet (ch x) = true) (a : Nat) : lexT l a = .ok [⟨1, ofL l, 0, (a : Int)⟩, ⟨0, ofL [], 0, ((a + l.length : Nat) : Int)⟩] := by
  cases l with
  | nil => exact absurd rfl hl
  | cons c r =>
    have hb := take_all (fun x => isLet (ch x)) (c :: r) h
    rw [lexT_word c r a (h c (by simp)), hb.1, hb.2]
    rfl

theorem letter_of (z : Nat) : ∃ x : UInt8, strOfNums [(97 + Int.tmod (z : Int) 26) % 256] = ofL [x] ∧ isLet (ch x) = true := by
  refine ⟨UInt8.ofNat (97 + z % 26), ?_, ?_⟩
  · have e : (97 + Int.tmod (z : Int) 26) % 256 = ((97 + z % 26 : Nat) : Int) := by
      rw [show Int.tmod (z : Int) 26 = ((z % 26 : Nat) : Int) from mod_nat z 26]
      omega
    unfold strOfNums ofL
    rw [e]
    rfl
  · have : ch (UInt8.ofNat (97 + z % 26)) = 97 + (z % 26 : Nat) := by
      unfold ch
      rw [UInt8.toNat_ofNat']
      omega
    rw [this]
    simp [isLet]
    omega
theorem u8_nat {a : Int} (h : (Lit.int .u8 a).wf = true) : 0 ≤ a ∧ a < 256 := by
  simp [Lit.wf, IntKind.min, IntKind.max, IntKind.signed, IntKind.bits] at h
  omega

theorem one_l0 (w : List Int) (hw : w.length ≤ 40) (hb : ∀ a ∈ w, 0 ≤ a) (x : UInt8) (hx : isLet (ch x) = true) : ∀ (d i : Nat) (acc : List UInt8), i + d = w.length → acc.length ≤ i → (∀ y ∈ acc, isLet (ch y) = true) →
    Ev (fun k => erewhilelaw33_CaltokOne.l0 k w (ofL [x]) (ofL acc) (i : Int)) true
  | 0, i, acc, hi, hl, ha => by
    refine ev_succ ?_
    have h1 : ¬ (i : Int) < (w.length : Int) := by omega
    have h2 : (ofL acc).size + (ofL [x]).size ≤ 9223372036854775807 := by
      rw [ofL_size, ofL_size]
      simp
      omega
    simp only [erewhilelaw33_CaltokOne.l0, if_neg h1, if_pos h2, ← ofL_append]
    have hs : (acc ++ [x]).length ≤ 100000 := by simp; omega
    refine Ev.bind (lex_ev (ofL (acc ++ [x])) (by rw [ofL_size]; exact hs)) ?_
    rw [lexS_lst, lst_ofL, word_alone (acc ++ [x]) (by simp) (fun y hy => by
      rcases List.mem_append.1 hy with hy | hy
      · exact ha y hy
      · rw [List.mem_singleton.1 hy]; exact hx) 0]
    refine ⟨0, fun k _ => ?_⟩
    simp [outL, rd_T33]
  | d + 1, i, acc, hi, hl, ha => by
    refine ev_succ ?_
    have h1 : (i : Int) < (w.length : Int) := by omega
    have h0 : (0 : Int) ≤ (i : Int) := by omega
    have hr : 0 ≤ rd w (i : Int) := by
      have : rd w (i : Int) = w[i]'(by omega) := by
        show w.getD (i : Int).toNat 0 = _
        rw [Int.toNat_natCast, List.getD_eq_getElem?_getD, List.getElem?_eq_getElem (by omega)]
        rfl
      rw [this]
      exact hb _ (List.getElem_mem _)
    obtain ⟨z, hz⟩ : ∃ z : Nat, rd w (i : Int) = (z : Int) := ⟨(rd w (i : Int)).toNat, by omega⟩
    obtain ⟨y, hy, hyl⟩ := letter_of z
    have h2 : (ofL acc).size + (ofL [y]).size ≤ 9223372036854775807 := by
      rw [ofL_size, ofL_size]
      simp
      omega
    simp only [erewhilelaw33_CaltokOne.l0, if_pos h1, if_pos h0, Option.bind_some, hz, hy, if_pos h2, ← ofL_append, wrap_succ i (by omega)]
    refine one_l0 w hw hb x hx d (i + 1) (acc ++ [y]) (by omega) (by simp; omega) ?_
    intro q hq
    rcases List.mem_append.1 hq with hq | hq
    · exact ha q hq
    · rw [List.mem_singleton.1 hq]; exact hyl

theorem one_pure (a : Int) (w : List Int) (m : Int) (ha : (Lit.int .u32 a).wf = true) (hw : w.length ≤ maxLen ∧ w.length * Tryd.prog.bytesOf 5 ≤ 140737488351232 ∧ ∀ x ∈ w, (Lit.int .u8 x).wf = true) (hm : (Lit.int .u8 m).wf = true) : Ev (fun k => erewhilelaw33_CaltokOne.f k a w m) true := by
  have ha := u32_nat ha
  have hm := u8_nat hm
  have hb : ∀ x ∈ w, 0 ≤ x := fun x hx => (u8_nat (hw.2.2 x hx)).1
  obtain ⟨x, rfl⟩ : ∃ q : Nat, a = (q : Int) := ⟨a.toNat, by omega⟩
  obtain ⟨z, rfl⟩ : ∃ q : Nat, m = (q : Int) := ⟨m.toNat, by omega⟩
  have e1 : wrap64 (Int.tmod (x : Int) 1073741824) = ((x % 1073741824 : Nat) : Int) := by
    rw [show Int.tmod (x : Int) 1073741824 = ((x % 1073741824 : Nat) : Int) from mod_nat x 1073741824]
    exact wrap_nat _ (by omega)
  simp only [erewhilelaw33_CaltokOne.f, e1]
  generalize hn : x % 1073741824 = n
  have hn' : n ≤ 1073741824 := by omega
  refine Ev.bind awake_ev ?_
  simp only [if_true]
  by_cases hl : (w.length : Int) > 40
  · simp only [if_pos hl]
    exact ev_some
  · simp only [if_neg hl]
    refine Ev.bind (text_ev n hn') ?_
    have hsz := textL_size n hn'
    refine Ev.bind (lex_ev _ (by rw [ofL_size]; omega)) ?_
    rw [lexS_lst, lst_ofL, time_alone n hn' 0]
    obtain ⟨c, hc, hcl⟩ := letter_of z
    have key : Ev (fun k => erewhilelaw33_CaltokOne.j0 k w (z : Int) (ofL (textL n)) false) true := by
      refine ev_succ ?_
      have h1 : 1 + (ofL (textL n)).size ≤ 9223372036854775807 := by rw [ofL_size]; omega
      have e0 : (⟨#[32]⟩ : ByteArray) = ofL [32] := rfl
      have h2 : (ofL ([32] ++ textL n)).size + (ofL [c]).size ≤ 9223372036854775807 := by
        rw [ofL_size, ofL_size]
        simp only [List.length_append, List.length_cons, List.length_nil]
        omega
      simp only [erewhilelaw33_CaltokOne.j0, Bool.false_eq_true, if_false, Option.bind_some, if_pos h1, hc, e0, ← ofL_append, if_pos h2]
      refine Ev.bind (lex_ev (ofL ([32] ++ textL n ++ [c])) (by rw [ofL_size]; simp only [List.length_append, List.length_cons, List.length_nil]; omega)) ?_
      rw [lexS_lst, lst_ofL, List.append_assoc, List.singleton_append, lexT_blank 32 _ 0 (by decide), time_spoilt n c hcl]
      have b1 : (((0 + 1 : Nat) : Int) != 1) = false := rfl
      simp only [outL, if_true, b1]
      refine ev_succ ?_
      simp only [erewhilelaw33_CaltokOne.j1, Bool.false_eq_true, if_false]
      exact one_l0 w (by omega) hb c hcl w.length 0 [] (by omega) (by simp) (by simp)
    have f1 : (([⟨2, ofL (textL n), (n : Int), ((0 : Nat) : Int)⟩, ⟨0, ofL [], 0, ((0 + (textL n).length : Nat) : Int)⟩] : List S33).length : Int) = 2 := rfl
    have f2 : rd_T33 [⟨2, ofL (textL n), (n : Int), ((0 : Nat) : Int)⟩, ⟨0, ofL [], 0, ((0 + (textL n).length : Nat) : Int)⟩] 0 = ⟨2, ofL (textL n), (n : Int), ((0 : Nat) : Int)⟩ := rfl
    have f3 : rd_T33 [⟨2, ofL (textL n), (n : Int), ((0 : Nat) : Int)⟩, ⟨0, ofL [], 0, ((0 + (textL n).length : Nat) : Int)⟩] 1 = ⟨0, ofL [], 0, ((0 + (textL n).length : Nat) : Int)⟩ := rfl
    have f4 : (((0 + (textL n).length : Nat) : Int) != ((ofL (textL n)).size : Int)) = false := by
      rw [ofL_size, Nat.zero_add]
      simp
    simp only [outL, List.nil_append, f1, f2, f3, f4, if_true]
    have g1 : (0 : Int) < 2 := by omega
    have g2 : (1 : Int) < 2 := by omega
    simp only [if_pos g1, if_pos g2]
    exact key
end Go.Proofs.YtmmkbdampdkjoaaDoor.Pl
