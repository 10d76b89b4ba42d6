/-
  The law CalautoMonotone tells true of every input. No condition.
-/
import Derived.Test.YtonlbeonblpblaaEnds
namespace Go.Proofs.Ytonlbeonblpblaa.All
open Go.RowKit Go.Proofs.YtonlbeonblpblaaW.PrintWords Go.Proofs.YtonlbeonblpblaaW.PrintLast Go.Proofs.YtonlbeonblpblaaW.PrintMore Go.Proofs.Ytonlbeonblpblaa.Wd
set_option linter.unusedVariables false
set_option linter.unusedSimpArgs false
private theorem ym (motive : Option Value → Sort _) (h1 : (b : Bool) → motive (some (.bool b))) (h2 : (x : Option Value) → motive x) : Go.yielded.match_1 motive (some undef) h1 h2 = h2 (some undef) := rfl
attribute [local go_sem, local simp] ym
def lastI (M : List It) : It := M.getD (M.length - 1) ⟨0, 0, false⟩
theorem lastI_eq {M : List It} (h : M.length - 1 < M.length) : lastI M = M[M.length - 1] := by
  unfold lastI
  rw [List.getD_eq_getElem?_getD, List.getElem?_eq_getElem h]
  rfl
theorem lastI_in {M : List It} (h : 0 < M.length) : lastI M ∈ M := by
  rw [lastI_eq (by omega)]
  exact List.getElem_mem _
set_option maxRecDepth 100000 in
theorem last_calls {M : List It} {A : Option Addr} {base b c : Nat} {w : World} (h : TAt w base b A c M) (h0 : 0 < M.length) (hl : M.length ≤ 1000) :
    Calls Try.prog 25 #[.pointer (some ⟨b, 0, none⟩)] w fun e w' => e = .returned (.tuple #[.int .u64 (lastI M).n, .bool true]) ∧ Below w.heap.size w w' := by
  have hlast : M.length - 1 < M.length := by omega
  have LC := Lib.hid (len_calls h)
  have hcap := h.cap
  have hcell := h.cell
  obtain ⟨q, rfl, hq, hcc⟩ := h.row h0
  obtain ⟨f0, f1, f2⟩ := hcc _ hlast
  rw [← lastI_eq hlast] at f0
  clear h hcc f1 f2
  have hz : ((M.length : Int) == 0) = false := beq_eq_false_iff_ne.2 (by omega)
  have d1 : IntKind.i64.wrap ((M.length : Int) - 1) = (M.length : Int) - 1 := IntWalk.i64_in _ (by omega)
  have d2 : ((M.length : Int) - 1).toNat = M.length - 1 := by omega
  have q1 : (0 : Int) ≤ (M.length : Int) - 1 := by omega
  have q2 : (M.length : Int) - 1 < (M.length : Int) := by omega
  generalize (lastI M).n = ln at *
  go_enter Try.func25, Try.ntmps25
  go_upto_region 3 with (go_at_call 44; refine LC.out.mono ?_; rintro e w' ⟨rfl, rfl⟩)
  go_quiet (fail)
  go_wp2
  go_ret2
  exact ⟨rfl, pw_below_drewN (Below.refl _ _) _⟩
theorem LW.add {w wr : World} {R : List Ru} {M : List It} {base b kb q : Nat} {A : Option Addr} {c : Nat} {ks : List (Ru × Nat)} (h : LW w wr R M base b kb q A c ks) (hl : M.length ≤ 1000) (num m : Int) :
    Calls Try.prog 26 #[.pointer (some ⟨b, 0, none⟩), .int .u64 num, .int .i64 m] wr fun e w' => e = .returned (.int .i64 (addC M num m)) ∧ LW w w' R (addM M num m) base b kb q A c ks := by
  obtain ⟨A', c', ht⟩ := h.kt.t
  have hne := heap_ne h.box ht.head (by simp)
  exact (h.kt.add hl num m).mono fun e w' ⟨he, hk, t⟩ => ⟨he, hk, t.kind _ _ h.box hne (fun cur h => by injection h with _ h; exact absurd h (by decide)), h.rt, h.ru⟩
theorem add_good {M : List It} (g : Good M) (hl : M.length ≤ 30) {num m : Int} (h : addC M num m = 0) : Good (M ++ [⟨num, m, false⟩]) := by
  unfold addC at h
  by_cases h1 : num < 1 ∨ 65535 < num ∨ m < 0 ∨ 1073741824 < m
  · rw [if_pos h1] at h; exact absurd h (by decide)
  · rw [if_neg h1] at h
    by_cases h2 : 0 < M.length ∧ (num ≤ (M.getD (M.length - 1) ⟨0, 0, false⟩).n ∨ m < (M.getD (M.length - 1) ⟨0, 0, false⟩).m)
    · rw [if_pos h2] at h; exact absurd h (by decide)
    · refine ⟨fun i j hi hj hij => ?_, fun x hx => ?_, by rw [List.length_append]; simp; omega⟩
      · rw [List.length_append] at hi hj
        simp at hi hj
        by_cases e : j = M.length
        · subst e
          rw [List.getElem_append_left (by omega), List.getElem_append_right (by omega)]
          simp only [List.getElem_singleton]
          have h3 := lastI_eq (M := M) (by omega)
          have h4 : ¬ num ≤ (lastI M).n := fun h => h2 ⟨by omega, .inl h⟩
          rw [h3] at h4
          by_cases e : i = M.length - 1
          · subst e; omega
          · have := g.up i (M.length - 1) (by omega) (by omega) (by omega)
            omega
        · rw [List.getElem_append_left (by omega), List.getElem_append_left (by omega)]
          exact g.up i j (by omega) (by omega) hij
      · rcases List.mem_append.1 hx with hx | hx
        · exact g.min x hx
        · obtain rfl : x = ⟨num, m, false⟩ := by simpa using hx
          show 0 ≤ m ∧ m ≤ 1073741824
          omega
section
variable {M : List It} {x : It} {num : Int}
theorem snoc_lb (g' : Good (M ++ [x])) (hh : hit M num = true) : lb (M ++ [x]) num = lb M num ∧ hit (M ++ [x]) num = true ∧ minM (M ++ [x]) num = minM M num := by
  obtain ⟨hl, e1, e2⟩ := hit_at hh
  have hi : lb M num < (M ++ [x]).length := by rw [List.length_append]; omega
  have e3 : (M ++ [x])[lb M num] = M[lb M num] := List.getElem_append_left hl
  have h1 := lb_at g'.up hi
  have h2 := hit_in g'.up hi
  have h3 := min_at g'.up hi
  rw [e3, e1] at h1 h2 h3
  exact ⟨h1, h2, h3.trans e2.symm⟩
theorem snoc_next (g' : Good (M ++ [x])) (hh : hit M num = true) : isLast M num = true ∨ (isLast (M ++ [x]) num = isLast M num ∧ nextM (M ++ [x]) num = nextM M num) := by
  obtain ⟨e1, e2, _⟩ := snoc_lb g' hh
  obtain ⟨hl, _, _⟩ := hit_at hh
  have n1 : nextI M num = lb M num + 1 := by unfold nextI; rw [if_pos hh]
  have n2 : nextI (M ++ [x]) num = lb M num + 1 := by unfold nextI; rw [if_pos e2, e1]
  by_cases h : lb M num + 1 < M.length
  · refine .inr ⟨?_, ?_⟩
    · unfold isLast
      rw [n1, n2, List.length_append, decide_eq_false (by simp; omega), decide_eq_false (by omega)]
    · unfold nextM
      rw [n1, n2, List.getElem?_append_left h]
  · refine .inl ?_
    unfold isLast
    rw [n1, decide_eq_true (by omega)]
theorem snoc_keep (g' : Good (M ++ [x])) (hh : hit M num = true) (r : Ru) (h : keepM (M ++ [x]) num r = true) : keepM M num r = true := by
  obtain ⟨e1, e2, e3⟩ := snoc_lb g' hh
  unfold keepM at h ⊢
  by_cases k1 : r.k = 1
  · rw [if_pos k1]
  · rw [if_neg k1] at h ⊢
    by_cases k2 : r.k = 2
    · rw [if_pos k2] at h ⊢
      unfold closesM at h ⊢
      rw [e2, e3] at h
      rw [hh]
      rcases snoc_next g' hh with hl | ⟨h1, h2⟩
      · rw [hl]
        simp only [Bool.and_eq_true, Bool.true_and] at h ⊢
        exact ⟨h.1, rfl⟩
      · rw [h1, h2] at h
        exact h
    · rw [if_neg k2] at h ⊢
      unfold quietM at h ⊢
      rw [e2, e3] at h
      rw [hh]
      rcases snoc_next g' hh with hl | ⟨h1, h2⟩
      · rw [hl]
        simp only [Bool.and_eq_true, Bool.true_and] at h ⊢
        exact ⟨h.1, rfl⟩
      · rw [h1, h2] at h
        exact h
theorem till_pos {R : List Ru} (rt : Rt R) (g : Good M) (num : Int) : 0 ≤ tl R M num ∧ tl R M num ≤ 2147483648 := by
  have h3 := minM_rng g num
  rcases till_cases M num (neverF R) (ksOf R) with ⟨h, _⟩ | ⟨_, ⟨r, hr, _, e⟩, _⟩
  · show 0 ≤ tillF _ _ _ _ ∧ tillF _ _ _ _ ≤ _
    omega
  · have := rt.span hr
    show 0 ≤ tillF _ _ _ _ ∧ tillF _ _ _ _ ≤ _
    omega
theorem snoc_till {R : List Ru} (rt : Rt R) (g : Good M) (g' : Good (M ++ [x])) (hh : hit M num = true) : tl R (M ++ [x]) num ≤ tl R M num := by
  have h0 := (till_pos rt g num).1
  obtain ⟨e1, e2, e3⟩ := snoc_lb g' hh
  rcases till_cases (M ++ [x]) num (neverF R) (ksOf R) with ⟨h, _⟩ | ⟨_, ⟨r, hr, hk, e⟩, _⟩
  · show tillF _ _ _ _ ≤ _
    omega
  · have hk' := snoc_keep g' hh r hk
    rw [e3] at e
    show tillF _ _ _ _ ≤ _
    rw [← e]
    exact till_max ((mins_mem _ _ _ _ _).2 ⟨hh, r, hr, hk', rfl⟩)
end
theorem sy_eq {R : List Ru} {M : List It} {num : Int} (h : hit M num = true) (now : Int) : sy R M num now = decide (now < tl R M num) := by
  show (hit M num && _) = _
  rw [h]
  rfl
theorem sy_no {R : List Ru} {M : List It} {num : Int} (h : hit M num = false) (now : Int) : sy R M num now = false := by
  show (hit M num && _) = _
  rw [h]
  rfl
set_option maxRecDepth 100000 in
set_option maxHeartbeats 4000000 in
theorem mono_skip (A0 P : Option Addr) (c0 cs n : Nat) (R : List Ru) (num now later step : Int) (w : World) (hR : RuRow w w.heap.size A0 R) (hl : R.length ≤ maxLen) (h : 29 < n ∨ rightL R = false ∨ later < now) :
    Calls Try.prog 9 #[.slice A0 R.length c0, .slice P n cs, .int .u64 num, .int .i64 now, .int .i64 later, .int .i64 step] w fun e w' => e = .returned (.bool true) ∧ Below w.heap.size w w' := by
  replace hR := Lib.hid hR
  by_cases h30 : 29 < n
  · have q1 : decide ((29 : Int) < (n : Int)) = true := decide_eq_true (by omega)
    go_enter Try.func9, Try.ntmps9
    go_wp2_with (go_at_call 11; refine (awake_calls _).mono ?_; rintro e w1 ⟨rfl, hb1⟩; replace hb1 := Lib.hid hb1)
    go_ret
    exact ⟨rfl, hb1.out⟩
  · have q1 : decide ((29 : Int) < (n : Int)) = false := decide_eq_false (by omega)
    replace h := h.resolve_left h30
    cases hr : rightL R with
    | false =>
      have hv := Lib.hid (rightV_no hr)
      clear h
      go_enter Try.func9, Try.ntmps9
      go_wp2_with (first
        | (go_at_call 11; refine (awake_calls _).mono ?_; rintro e w1 ⟨rfl, hb1⟩; replace hb1 := Lib.hid hb1)
        | (go_at_call 12; refine (right16_calls (hR.out.up hb1.out) hl).mono ?_; rintro e w2 ⟨rfl, hb2⟩; rw [hv.out]; replace hb2 := Lib.hid (hb1.out.trans (hb2.mono hb1.out.size))))
      go_ret
      exact ⟨rfl, hb2.out⟩
    | true =>
      have hv := Lib.hid (rightV_yes hr)
      have q2 : decide (later < now) = true := decide_eq_true (h.resolve_left (by rw [hr]; decide))
      clear h
      go_enter Try.func9, Try.ntmps9
      go_wp2_with (first
        | (go_at_call 11; refine (awake_calls _).mono ?_; rintro e w1 ⟨rfl, hb1⟩; replace hb1 := Lib.hid hb1)
        | (go_at_call 12; refine (right16_calls (hR.out.up hb1.out) hl).mono ?_; rintro e w2 ⟨rfl, hb2⟩; rw [hv.out]; replace hb2 := Lib.hid (hb1.out.trans (hb2.mono hb1.out.size))))
      go_ret
      exact ⟨rfl, hb2.out⟩
set_option maxRecDepth 100000 in
set_option maxHeartbeats 4000000 in
theorem mono_in (A0 P : Option Addr) (c0 cs : Nat) (R : List Ru) (L : List Int) (num now later step : Int) (w : World) (hR : RuRow w w.heap.size A0 R) (hr : rightL R = true) (hS : Reads w w.heap.size 1 P L.length (L.map (Value.int .u8))) (hs : Steps L) (h30 : L.length ≤ 29) (hnl : ¬ later < now) :
    Calls Try.prog 9 #[.slice A0 R.length c0, .slice P L.length cs, .int .u64 num, .int .i64 now, .int .i64 later, .int .i64 step] w fun e w' => e = .returned (.bool true) ∧ Below w.heap.size w w' := by
  have rt : Rt R := ⟨(rightL_parts hr).1, (rightL_parts hr).2⟩
  have hl : R.length ≤ maxLen := Nat.le_trans rt.len (by decide)
  have hv := Lib.hid (rightV_yes hr)
  have q1 : decide ((29 : Int) < (L.length : Int)) = false := decide_eq_false (by omega)
  have q2 : decide (later < now) = false := decide_eq_false hnl
  have g := mkM_good hs (Nat.le_refl _) (show L.length ≤ 30 by omega)
  have RT := Lib.hid rt
  have G := Lib.hid g
  have GN := Lib.hid (show ∀ x ∈ mkM L L.length, 1 ≤ x.n ∧ x.n ≤ 30 from fun x hx => by have := mkM_mem hs (Nat.le_refl _) hx; omega)
  have GL : (mkM L L.length).length ≤ 30 := by rw [mkM_length]; omega
  replace hR := Lib.hid hR
  replace hS := Lib.hid hS
  replace hs := Lib.hid hs
  clear hr rt g
  go_enter Try.func9, Try.ntmps9
  go_upto_region 5 with (first
      | (go_at_call 11; refine (awake_calls _).mono ?_; rintro e w1 ⟨rfl, hb1⟩; replace hb1 := Lib.hid hb1)
      | (go_at_call 12; refine (right16_calls (hR.out.up hb1.out) hl).mono ?_; rintro e w2 ⟨rfl, hb2⟩; rw [hv.out]; replace hb2 := Lib.hid (hb1.out.trans (hb2.mono hb1.out.size))))
  go_upto_region 6 with (go_at_call 14; refine (comp_lw hR.out RT.out hb2.out).mono ?_; rintro e w3 ⟨A, c, ks, rfl, hk3, hm3, hb3⟩; replace hb3 := Lib.hid hb3; replace hk3 := Lib.hid hk3; replace hm3 := Lib.hid hm3)
  have XB := Lib.hid (fun (w4 : World) (h : Below w3.heap.size w3 w4) => (hb2.out.trans (hb3.out.mono hb2.out.size)).trans (h.mono (Nat.le_trans hb2.out.size hb3.out.size)))
  have XL := Lib.hid (fun (w4 : World) (h : Below w3.heap.size w3 w4) => (XB.out w4 h).size)
  go_upto_region 7 with (go_at_call 15; (with_reducible refine (made_calls (B := w.heap.size) (hS.out.below (XB.out _ (below_alloc (Below.refl _ _) _))) (XL.out _ (below_alloc (Below.refl _ _) _)) hs.out (Nat.le_succ_of_le h30)).mono ?_); rintro e w4 ⟨b, gx, rfl, ⟨base, A4, c4, hl1, hl2, hl3, ht4⟩, hx4, hb4⟩; have H := Lib.hid (lw_mk RT.out hb2.out hk3.out hm3.out hb3.out hl1 hl2 hl3 ⟨_, _, ht4⟩ hb4); clear hl1 hl2 hl3 ht4 hx4 hb4)
  generalize mkM L L.length = M at *
  clear hb3 hk3 hm3 XB XL hb1 hb2 hR hS hs hv
  generalize w3.heap.size = q at *
  generalize w2.heap.size = kb at *
  have Mn := fun num w5 h => LW.min (w := w) (wr := w5) (R := R) (base := base) (b := b) (kb := kb) (q := q) (A := A) (c := c) (ks := ks) h G.out num
  have Sn := fun now w5 h => LW.stays (w := w) (wr := w5) (R := R) (base := base) (b := b) (kb := kb) (q := q) (A := A) (c := c) (ks := ks) h G.out num now
  cases hh : hit M num with
  | false =>
    have Mn := Mn num
    have Sn := Sn now
    have Ms := fun w5 h => LW.mins (w := w) (wr := w5) (R := R) (base := base) (b := b) (kb := kb) (q := q) (A := A) (c := c) (ks := ks) h G.out num
    rw [hh] at Mn
    rw [sy_no hh] at Sn
    rw [show mn R M num = [] from mins_no hh _ _] at Ms
    replace Mn := Lib.hid Mn
    replace Sn := Lib.hid Sn
    replace Ms := Lib.hid Ms
    clear hh
    go_wp2_with (first
      | (go_at_call 17; refine (Mn.out _ H.out).mono ?_; rintro e w5 ⟨rfl, hb5⟩; have H5 := Lib.hid (H.out.below hb5); have hc5 := H5.out.cells; clear hb5)
      | (go_at_call 23; refine (Sn.out _ H5.out).mono ?_; rintro e w6 ⟨rfl, hb6⟩; have H6 := Lib.hid (H5.out.below hb6); have hc6 := H6.out.cells; clear hb6)
      | (go_at_call 18; refine (Ms.out _ H6.out).mono ?_; rintro e w7 ⟨v7, rfl, ho7, hb7⟩; have H7 := Lib.hid (H6.out.below hb7); obtain ⟨A7, c7, rfl, hcc7⟩ := own_slice_cap ho7; simp only [List.length_nil]; clear ho7 hb7))
    go_ret
    exact ⟨rfl, H7.out.kt.bel⟩
  | true =>
    have hM0 : 0 < M.length := by
      obtain ⟨hl, _⟩ := hit_at hh
      omega
    have Mn1 := Mn num
    rw [hh] at Mn1
    replace Mn1 := Lib.hid Mn1
    have e9 : M.length - 1 < M.length := by omega
    have Mn2 := Mn (lastI M).n
    rw [show hit M (lastI M).n = true by rw [lastI_eq e9]; exact hit_in G.out.up e9, show minM M (lastI M).n = (lastI M).m by rw [lastI_eq e9]; exact min_at G.out.up e9] at Mn2
    replace Mn2 := Lib.hid Mn2
    have HH := Lib.hid hh
    have Tl := fun w5 h => LW.till (w := w) (wr := w5) (R := R) (base := base) (b := b) (kb := kb) (q := q) (A := A) (c := c) (ks := ks) h G.out num
    replace Tl := Lib.hid Tl
    have Ls := Lib.hid (fun (w5 : World) (h : LW w w5 R M base b kb q A c ks) => let ⟨A, c, ht⟩ := h.kt.t; last_calls ht hM0 G.out.len)
    have S1 := Sn now
    have S2 := Sn later
    rw [sy_eq hh] at S1 S2
    replace S1 := Lib.hid S1
    replace S2 := Lib.hid S2
    clear hh Mn Sn
    go_upto_region 10 with (go_at_call 17; refine (Mn1.out _ H.out).mono ?_; rintro e w5 ⟨rfl, hb5⟩; have H5 := Lib.hid (H.out.below hb5); have hc5 := H5.out.cells; clear hb5 H)
    go_region_held3 (fun w' => w'.cell? { block := q, off := 0 } = some (.slice A ks.length c) ∧ w'.cell? { block := q, off := 1 } = some (.int .i64 (neverF R).1) ∧ w'.cell? { block := q, off := 2 } = some (.bool (neverF R).2)) (first | exact hc5 | exact hc6 | exact hc7)
      ((first
        | (go_at_call 16
           refine (Tl.out _ (H5.out.below (below_drew (Below.refl _ _)))).mono ?_
           rintro e w6 ⟨rfl, hb6⟩
           have H6 := Lib.hid (H5.out.below ((below_drew (Below.refl _ _)).trans hb6))
           have hc6 := H6.out.cells
           clear hb6)
        | (go_at_call 23
           refine (S1.out _ H6.out).mono ?_
           rintro e w7 ⟨rfl, hb7⟩
           have H7 := Lib.hid (H6.out.below hb7)
           have hc7 := H7.out.cells
           clear hb7)))
    clear H5 H6 hc5 hc6
    have hLm := G.out.min _ (lastI_in hM0)
    have hLn := GN.out _ (lastI_in hM0)
    have d1 : IntKind.u64.wrap ((lastI M).n + 1) = (lastI M).n + 1 := IntWalk.u64_in _ (by omega)
    have ttl : 0 ≤ tl R M num ∧ tl R M num ≤ 2147483648 := till_pos RT.out G.out num
    by_cases hst : now < tl R M num
    · have s1 : decide (now < tl R M num) = true := decide_eq_true hst
      go_upto_region 15 with (first
        | (go_at_call 23; (with_reducible refine (S2.out _ H7.out).mono ?_); rintro e w8 ⟨rfl, hb8⟩; replace H7 := Lib.hid (H7.out.below hb8); replace hc7 := H7.out.cells; clear hb8 S2)
        | (go_at_call 25; (with_reducible refine (Ls.out _ H7.out).mono ?_); rintro e w9 ⟨rfl, hb9⟩; have H9 := Lib.hid (H7.out.below hb9); clear hb9)
        | (go_at_call 17; (with_reducible refine (Mn2.out _ H9.out).mono ?_); rintro e w10 ⟨rfl, hb10⟩; have H10 := Lib.hid (H9.out.below hb10); clear hb10 H7 H9 hc7))
      by_cases hs0 : step < 0
      · have q3 : decide (step < 0) = true := decide_eq_true hs0
        go_wp2
        go_ret
        exact ⟨rfl, H10.out.kt.bel⟩
      · have q3 : decide (step < 0) = false := decide_eq_false hs0
        have hmd : 0 ≤ (step % 1000) ∧ (step % 1000) < 1000 := by omega
        have d2 : IntKind.i64.wrap ((lastI M).m + (step % 1000)) = (lastI M).m + (step % 1000) := IntWalk.i64_in _ (by omega)
        have d3 : wrap64 ((lastI M).m + (step % 1000)) = (lastI M).m + (step % 1000) := (i64_w _).symm.trans d2
        have d4 : IntKind.i64.wrap ((step % 1000)) = (step % 1000) := IntWalk.i64_in _ (by omega)
        have d5 : wrap64 ((step % 1000)) = (step % 1000) := (i64_w _).symm.trans d4
        have A1 := Lib.hid (H10.out.add G.out.len ((lastI M).n + 1) ((lastI M).m + (step % 1000)))
        have hAD := Lib.hid (fun h => add_good G.out GL (num := (lastI M).n + 1) (m := (lastI M).m + (step % 1000)) h)
        have hAM := Lib.hid (fun (h : addC M ((lastI M).n + 1) ((lastI M).m + (step % 1000)) = 0) => show addM M ((lastI M).n + 1) ((lastI M).m + (step % 1000)) = M ++ [⟨(lastI M).n + 1, (lastI M).m + (step % 1000), false⟩] by unfold addM; rw [if_pos h])
        generalize addM M ((lastI M).n + 1) ((lastI M).m + (step % 1000)) = M2 at *
        generalize addC M ((lastI M).n + 1) ((lastI M).m + (step % 1000)) = ac at *
        by_cases ha : ac = 0
        · subst ha
          have hM2 := hAM.out rfl
          have g2 := hAD.out rfl
          rw [← hM2] at g2
          have hh2 : hit M2 num = true := by rw [hM2] at g2 ⊢; exact (snoc_lb g2 HH.out).2.1
          have hle : tl R M2 num ≤ tl R M num := by rw [hM2] at g2 ⊢; exact snoc_till RT.out G.out g2 HH.out
          have s3 : decide (tl R M2 num ≤ tl R M num) = true := decide_eq_true hle
          have Tl2 := Lib.hid (fun w5 h => LW.till (w := w) (wr := w5) (R := R) (M := M2) (base := base) (b := b) (kb := kb) (q := q) (A := A) (c := c) (ks := ks) h g2 num)
          have S4 := fun w5 h => LW.stays (w := w) (wr := w5) (R := R) (M := M2) (base := base) (b := b) (kb := kb) (q := q) (A := A) (c := c) (ks := ks) h g2 num later
          replace S4 := Lib.hid S4
          clear hM2 g2 hh2 hAD hAM
          go_wp2_with (first
            | (go_at_call 26; (with_reducible refine A1.out.mono ?_); rintro e w11 ⟨rfl, h11⟩; have H11 := Lib.hid h11; have hc11 := H11.out.cells; clear h11)
            | (go_at_call 16; (with_reducible refine (Tl2.out _ H11.out).mono ?_); rintro e w12 ⟨rfl, hb12⟩; have H12 := Lib.hid (H11.out.below hb12); have hc12 := H12.out.cells; clear hb12)
            | (go_at_call 23; (with_reducible refine (S4.out _ H12.out).mono ?_); rintro e w13 ⟨rfl, hb13⟩; have H13 := Lib.hid (H12.out.below hb13); clear hb13))
          go_ret
          exact ⟨rfl, H12.out.kt.bel⟩
        · have hz : (ac == 0) = false := beq_eq_false_iff_ne.2 ha
          go_wp2_with (go_at_call 26; (with_reducible refine A1.out.mono ?_); rintro e w11 ⟨rfl, h11⟩; have H11 := Lib.hid h11; clear h11)
          go_ret
          exact ⟨rfl, H11.out.kt.bel⟩
    · have s1 : decide (now < tl R M num) = false := decide_eq_false hst
      have s2 : decide (later < tl R M num) = false := decide_eq_false (by omega)
      go_upto_region 15 with (first
        | (go_at_call 23; (with_reducible refine (S2.out _ H7.out).mono ?_); rintro e w8 ⟨rfl, hb8⟩; replace H7 := Lib.hid (H7.out.below hb8); replace hc7 := H7.out.cells; clear hb8 S2)
        | (go_at_call 25; (with_reducible refine (Ls.out _ H7.out).mono ?_); rintro e w9 ⟨rfl, hb9⟩; have H9 := Lib.hid (H7.out.below hb9); clear hb9)
        | (go_at_call 17; (with_reducible refine (Mn2.out _ H9.out).mono ?_); rintro e w10 ⟨rfl, hb10⟩; have H10 := Lib.hid (H9.out.below hb10); clear hb10 H7 H9 hc7))
      by_cases hs0 : step < 0
      · have q3 : decide (step < 0) = true := decide_eq_true hs0
        go_wp2
        go_ret
        exact ⟨rfl, H10.out.kt.bel⟩
      · have q3 : decide (step < 0) = false := decide_eq_false hs0
        have hmd : 0 ≤ (step % 1000) ∧ (step % 1000) < 1000 := by omega
        have d2 : IntKind.i64.wrap ((lastI M).m + (step % 1000)) = (lastI M).m + (step % 1000) := IntWalk.i64_in _ (by omega)
        have d3 : wrap64 ((lastI M).m + (step % 1000)) = (lastI M).m + (step % 1000) := (i64_w _).symm.trans d2
        have d4 : IntKind.i64.wrap ((step % 1000)) = (step % 1000) := IntWalk.i64_in _ (by omega)
        have d5 : wrap64 ((step % 1000)) = (step % 1000) := (i64_w _).symm.trans d4
        have A1 := Lib.hid (H10.out.add G.out.len ((lastI M).n + 1) ((lastI M).m + (step % 1000)))
        have hAD := Lib.hid (fun h => add_good G.out GL (num := (lastI M).n + 1) (m := (lastI M).m + (step % 1000)) h)
        have hAM := Lib.hid (fun (h : addC M ((lastI M).n + 1) ((lastI M).m + (step % 1000)) = 0) => show addM M ((lastI M).n + 1) ((lastI M).m + (step % 1000)) = M ++ [⟨(lastI M).n + 1, (lastI M).m + (step % 1000), false⟩] by unfold addM; rw [if_pos h])
        generalize addM M ((lastI M).n + 1) ((lastI M).m + (step % 1000)) = M2 at *
        generalize addC M ((lastI M).n + 1) ((lastI M).m + (step % 1000)) = ac at *
        by_cases ha : ac = 0
        · subst ha
          have hM2 := hAM.out rfl
          have g2 := hAD.out rfl
          rw [← hM2] at g2
          have hh2 : hit M2 num = true := by rw [hM2] at g2 ⊢; exact (snoc_lb g2 HH.out).2.1
          have hle : tl R M2 num ≤ tl R M num := by rw [hM2] at g2 ⊢; exact snoc_till RT.out G.out g2 HH.out
          have s3 : decide (tl R M2 num ≤ tl R M num) = true := decide_eq_true hle
          have Tl2 := Lib.hid (fun w5 h => LW.till (w := w) (wr := w5) (R := R) (M := M2) (base := base) (b := b) (kb := kb) (q := q) (A := A) (c := c) (ks := ks) h g2 num)
          have S4 := fun w5 h => LW.stays (w := w) (wr := w5) (R := R) (M := M2) (base := base) (b := b) (kb := kb) (q := q) (A := A) (c := c) (ks := ks) h g2 num later
          rw [sy_eq hh2, decide_eq_false (show ¬ later < tl R M2 num by omega)] at S4
          replace S4 := Lib.hid S4
          clear hM2 g2 hh2 hAD hAM
          go_wp2_with (first
            | (go_at_call 26; (with_reducible refine A1.out.mono ?_); rintro e w11 ⟨rfl, h11⟩; have H11 := Lib.hid h11; have hc11 := H11.out.cells; clear h11)
            | (go_at_call 16; (with_reducible refine (Tl2.out _ H11.out).mono ?_); rintro e w12 ⟨rfl, hb12⟩; have H12 := Lib.hid (H11.out.below hb12); have hc12 := H12.out.cells; clear hb12)
            | (go_at_call 23; (with_reducible refine (S4.out _ H12.out).mono ?_); rintro e w13 ⟨rfl, hb13⟩; have H13 := Lib.hid (H12.out.below hb13); clear hb13))
          go_ret
          exact ⟨rfl, H13.out.kt.bel⟩
        · have hz : (ac == 0) = false := beq_eq_false_iff_ne.2 ha
          go_wp2_with (go_at_call 26; (with_reducible refine A1.out.mono ?_); rintro e w11 ⟨rfl, h11⟩; have H11 := Lib.hid h11; clear h11)
          go_ret
          exact ⟨rfl, H11.out.kt.bel⟩
theorem mono_any (A0 : Option Addr) (c0 : Nat) (R : List Ru) (P : Option Addr) (cs : Nat) (L : List Int) (num now later step : Int) (w : World) (hR : Kd.C kRu w A0 R.length R) (hl : R.length ≤ maxLen) (hS : Kd.C (Kd.int .u8) w P L.length L) (hw : ∀ a ∈ L, (Lit.int .u8 a).wf = true) :
    Calls Try.prog 9 #[.slice A0 R.length c0, .slice P L.length cs, .int .u64 num, .int .i64 now, .int .i64 later, .int .i64 step] w fun e w' => e = .returned (.bool true) ∧ Below w.heap.size w w' := by
  by_cases h30 : 29 < L.length
  · exact mono_skip A0 P c0 cs L.length R num now later step w (ru_row hR) hl (.inl h30)
  · cases hr : rightL R with
    | false => exact mono_skip A0 P c0 cs L.length R num now later step w (ru_row hR) hl (.inr (.inl hr))
    | true =>
      by_cases hn : later < now
      · exact mono_skip A0 P c0 cs L.length R num now later step w (ru_row hR) hl (.inr (.inr hn))
      · exact mono_in A0 P c0 cs R L num now later step w (ru_row hR) hr (steps_came hS) (steps_wf hw) (by omega) hn
end Go.Proofs.Ytonlbeonblpblaa.All
