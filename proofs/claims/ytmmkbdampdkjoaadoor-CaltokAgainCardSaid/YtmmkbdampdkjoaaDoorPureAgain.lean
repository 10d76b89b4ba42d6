/-
  The law CaltokAgain in plain Lean: it tells true of any text.
-/
import Derived.Test.YtmmkbdampdkjoaaDoorLexI
import Derived.Test.YtmmkbdampdkjoaaDoorLexC
import Derived.Test.YtmmkbdampdkjoaaDoorAllx10
namespace Go.Proofs.YtmmkbdampdkjoaaDoor.Pl
open Go.RowKit Go.Proofs.YtmmkbdampdkjoaaDoor.All Go.Proofs.YtmmkbdampdkjoaaDoorW.PrintWords
set_option linter.unusedVariables false
set_option linter.unusedSimpArgs false

theorem rd_at (l : List S33) (i : Nat) (h : i < l.length) : rd_T33 l (i : Int) = l[i] := by
  show l.getD (i : Int).toNat z33 = l[i]
  rw [Int.toNat_natCast, List.getD_eq_getElem?_getD, List.getElem?_eq_getElem h]
  rfl
theorem wrap_of (a : Int) (h : -1000000000 ≤ a ∧ a ≤ 1000000000) : wrap64 a = a := by
  unfold wrap64
  omega
theorem wrap_add (p z : Nat) (h : p + z ≤ 1000000) : wrap64 ((p : Int) + (z : Int)) = ((p + z : Nat) : Int) := by
  unfold wrap64
  omega
theorem wrap_pred (i : Nat) (h : i ≠ 0) (h2 : i ≤ 1000000) : wrap64 ((i : Int) - 1) = ((i - 1 : Nat) : Int) := by
  unfold wrap64
  omega
theorem not_lt_wrap (p a z : Nat) (h : a + z ≤ p) (h2 : p ≤ 1000000) : ¬ (p : Int) < wrap64 ((a : Int) + (z : Int)) := by
  rw [wrap_add a z (by omega)]
  omega
theorem to_lst (s : ByteArray) : s.toList = lst s := ByteArray.toList_eq s
theorem chain_at : ∀ (L : List S33) (lo : Int), chain lo L → ∀ i (h : i + 1 < L.length), (L[i]'(by omega)).f3 + ((L[i]'(by omega)).f1.size : Int) ≤ (L[i + 1]'h).f3
  | [], _, _, i, h => by simp at h
  | [t], _, _, i, h => by simp at h
  | t :: u :: L, lo, ⟨h1, h2⟩, 0, h => h2.1
  | t :: u :: L, lo, ⟨h1, h2⟩, i + 1, h => chain_at (u :: L) _ h2 i (by simpa using h)
theorem join_take (L : List S33) (i : Nat) (h : i < L.length) : joinL (L.take (i + 1)) = joinL (L.take i) ++ outT L[i] := by
  rw [List.take_add_one, List.getElem?_eq_getElem h]
  unfold joinL
  rw [List.flatMap_append]
  simp
theorem join_len (L : List S33) (h : ∀ t ∈ L, t.f1.size ≤ 300) : ∀ M : List S33, (∀ t ∈ M, t ∈ L) → (joinL M).length ≤ 301 * M.length
  | [], _ => by simp [joinL]
  | t :: M, hm => by
    have ih := join_len L h M (fun u hu => hm u (by simp [hu]))
    have ht := h t (hm t (by simp))
    have : (outT t).length ≤ 301 := by
      unfold outT
      split
      · simp
      · rw [List.length_append, lst_len]
        simp
        omega
    have e : joinL (t :: M) = outT t ++ joinL M := rfl
    rw [e, List.length_append, List.length_cons]
    omega

theorem again_l1 (s : ByteArray) (hs : s.size ≤ 300) (L L' : List S33) (hl : L.length ≤ 1000) (hst : ∀ t ∈ L, standsT (lst s) t) (hch : chain 0 L) (he : L'.map stripT = L.map stripT) : ∀ d i : Nat, i + d = L.length → Ev (fun k => erewhilelaw33_CaltokAgain.l1 k s L L' (i : Int)) true
  | 0, i, hi => by
    refine ev_succ ?_
    have h1 : ¬ (i : Int) < (L.length : Int) := by omega
    simp only [erewhilelaw33_CaltokAgain.l1, if_neg h1]
    exact ev_some
  | d + 1, i, hi => by
    have ih := again_l1 s hs L L' hl hst hch he d (i + 1) (by omega)
    refine ev_succ ?_
    have hlen : L'.length = L.length := by simpa using congrArg List.length he
    have h1 : (i : Int) < (L.length : Int) := by omega
    have h0 : (0 : Int) ≤ (i : Int) := by omega
    have h2 : (i : Int) < (L'.length : Int) := by omega
    have hiL : i < L.length := by omega
    have hiL' : i < L'.length := by omega
    have e : stripT (L'[i]) = stripT (L[i]) := by
      have := congrArg (fun l : List S33 => l[i]?) he
      simp only [List.getElem?_map, List.getElem?_eq_getElem hiL, List.getElem?_eq_getElem hiL', Option.map_some] at this
      exact Option.some.inj this
    obtain ⟨g0, g1, g2, -⟩ := S33.mk.inj e
    obtain ⟨p, hp, hpl, htk⟩ := hst _ (List.getElem_mem hiL)
    rw [lst_len] at hpl
    have hsz : L[i].f1.size ≤ s.size - p := by
      have := congrArg List.length htk
      rw [List.length_take, List.length_drop, lst_len, lst_len] at this
      omega
    have a1 : ¬ (p : Int) < 0 := by omega
    have a2 : ¬ (p : Int) > (s.size : Int) := by omega
    have a3 : (0 : Int) ≤ (p : Int) := by omega
    have a4 : (p : Int) ≤ ((p + L[i].f1.size : Nat) : Int) := by omega
    have a5 : ((p + L[i].f1.size : Nat) : Int) ≤ (s.size : Int) := by omega
    have ex : (s.extract (p : Int).toNat (((p + L[i].f1.size : Nat) : Int)).toNat).toList = lst L[i].f1 := by
      rw [Int.toNat_natCast, Int.toNat_natCast, to_lst, lst_extract, Nat.add_sub_cancel_left, htk]
    have hb : p + L[i].f1.size ≤ 1000000 := by omega
    have hi2 : i < 1000000000 := by omega
    have w1 := wrap_add p L[i].f1.size hb
    have ws : wrap64 ((i : Int) + 1) = ((i + 1 : Nat) : Int) := wrap_succ i hi2
    simp only [erewhilelaw33_CaltokAgain.l1, if_pos h1, if_pos h0, if_pos h2, rd_at L i hiL, rd_at L' i hiL', g0, g1, g2, if_true, hp, if_neg a1, if_neg a2, if_pos a3, w1, if_pos a4, if_pos a5, ex, to_lst, ws]
    by_cases hz : i = 0
    · have b1 : ¬ (i : Int) > 0 := by clear ws w1; omega
      simp only [if_neg b1]
      exact ih
    · clear ws w1
      have b1 : (i : Int) > 0 := by omega
      have b2 : (0 : Int) ≤ ((i - 1 : Nat) : Int) := by omega
      have b3 : ((i - 1 : Nat) : Int) < (L.length : Int) := by omega
      have hjL : i - 1 < L.length := by omega
      have hc := chain_at L 0 hch (i - 1) (by omega)
      have e1 : L[i - 1 + 1]'(by omega) = L[i] := by congr 1; omega
      obtain ⟨p', hp', hpl', -⟩ := hst _ (List.getElem_mem hjL)
      rw [e1, hp, hp'] at hc
      have b4 := not_lt_wrap p p' L[i - 1].f1.size (by omega) (by omega)
      have w2 := wrap_pred i hz (by omega)
      simp only [if_pos b1, w2, if_pos b2, if_pos b3, rd_at L (i - 1) hjL, hp', if_neg b4]
      exact ih

theorem again_l0 (s : ByteArray) (hs : s.size ≤ 300) (L : List S33) (hlex : lexT (lst s) 0 = .ok L) (hl : L.length ≤ 301) (hst : ∀ t ∈ L, standsT (lst s) t) (hch : chain 0 L) : ∀ d i : Nat, i + d = L.length → Ev (fun k => erewhilelaw33_CaltokAgain.l0 k s L (ofL (joinL (L.take i))) (i : Int)) true := by
  have hf1 : ∀ t ∈ L, t.f1.size ≤ 300 := fun t ht => by
    obtain ⟨p, hp, hpl, htk⟩ := hst t ht
    have := congrArg List.length htk
    rw [List.length_take, List.length_drop, lst_len, lst_len] at this
    omega
  have hjl : ∀ i, (joinL (L.take i)).length ≤ 90601 := fun i => by
    have h1 := join_len L hf1 (L.take i) (fun t ht => List.mem_of_mem_take ht)
    have h2 : (L.take i).length ≤ L.length := by rw [List.length_take]; omega
    omega
  intro d
  induction d with
  | zero =>
    intro i hi
    obtain rfl : i = L.length := by omega
    refine ev_succ ?_
    have h1 : ¬ (L.length : Int) < (L.length : Int) := by omega
    simp only [erewhilelaw33_CaltokAgain.l0, if_neg h1]
    have hsz := hjl L.length
    rw [List.take_length] at hsz ⊢
    refine Ev.bind (lex_ev (ofL (joinL L)) (by rw [size_ofL]; omega)) ?_
    obtain ⟨L', h2, h3⟩ := lexT_again _ _ _ hlex 0
    rw [lexS_lst, lst_ofL, h2]
    have hlen : L'.length = L.length := by simpa using congrArg List.length h3
    have e : ((L'.length : Int) != (L.length : Int)) = false := by rw [hlen]; simp
    simp only [outL, List.nil_append, if_true, e]
    refine ev_succ ?_
    simp only [erewhilelaw33_CaltokAgain.j1, Bool.false_eq_true, if_false]
    exact again_l1 s hs L L' (by omega) hst hch h3 L.length 0 (by omega)
  | succ d ih =>
    intro i hi
    have ih := ih (i + 1) (by omega)
    refine ev_succ ?_
    have h1 : (i : Int) < (L.length : Int) := by omega
    have h0 : (0 : Int) ≤ (i : Int) := by omega
    have hiL : i < L.length := by omega
    have hsz := hjl i
    have ws : wrap64 ((i : Int) + 1) = ((i + 1 : Nat) : Int) := wrap_succ i (by omega)
    have e10 : (⟨#[10]⟩ : ByteArray) = ofL [10] := rfl
    have e32 : (⟨#[32]⟩ : ByteArray) = ofL [32] := rfl
    have hf := hf1 _ (List.getElem_mem hiL)
    rw [join_take L i hiL] at ih
    simp only [erewhilelaw33_CaltokAgain.l0, if_pos h1, if_pos h0, rd_at L i hiL, ws]
    by_cases h3 : L[i].f0 = 3
    · have c1 : (ofL (joinL (L.take i))).size + 1 ≤ 9223372036854775807 := by rw [size_ofL]; omega
      simp only [if_pos h3, if_pos c1, e10, ← ofL_append]
      unfold outT at ih
      rw [if_pos h3] at ih
      exact ih
    · have c1 : L[i].f1.size + 1 ≤ 9223372036854775807 := by omega
      have c2 : (ofL (joinL (L.take i))).size + (L[i].f1 ++ ofL [32]).size ≤ 9223372036854775807 := by
        rw [size_ofL, ← lst_len (L[i].f1 ++ ofL [32]), lst_append, lst_ofL, List.length_append, lst_len]
        simp
        omega
      have e3 : ofL (joinL (L.take i)) ++ (L[i].f1 ++ ofL [32]) = ofL (joinL (L.take i) ++ (lst L[i].f1 ++ [32])) := by
        rw [ofL_append, ofL_append, ofL_lst]
      simp only [if_neg h3, if_pos c1, e32, if_pos c2, e3]
      unfold outT at ih
      rw [if_neg h3] at ih
      exact ih

theorem again_pure (s : ByteArray) (_hs : s.size ≤ 140737488351232) : Ev (fun k => erewhilelaw33_CaltokAgain.f k s) true := by
  simp only [erewhilelaw33_CaltokAgain.f]
  refine Ev.bind awake_ev ?_
  simp only [if_true]
  by_cases h : (s.size : Int) > 300
  · simp only [if_pos h]
    exact ev_some
  · simp only [if_neg h]
    refine Ev.bind (lex_ev s (by omega)) ?_
    rw [lexS_lst]
    cases hA : lexT (lst s) 0 with
    | error j =>
      refine ⟨0, fun k _ => ?_⟩
      simp [outL]
    | ok L =>
      obtain ⟨b1, b2, b3⟩ := lexT_bounds _ _ _ hA
      rw [lst_len] at b2
      simp only [outL, List.nil_append, if_true]
      have := again_l0 s (by omega) L hA (by omega) (lexT_stands (lst s) (lst s) 0 (by simp) (by omega) L hA) (lexT_chain _ _ _ hA) L.length 0 (by omega)
      exact this
end Go.Proofs.YtmmkbdampdkjoaaDoor.Pl
