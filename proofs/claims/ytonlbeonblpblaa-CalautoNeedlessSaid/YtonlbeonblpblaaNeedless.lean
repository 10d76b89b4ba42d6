/-
  The law CalautoNeedless tells true of every input. No condition.
-/
import Derived.Test.YtonlbeonblpblaaCheckW
namespace Go.Proofs.Ytonlbeonblpblaa.All
open Go.RowKit Go.Proofs.YtonlbeonblpblaaW.PrintWords Go.Proofs.YtonlbeonblpblaaW.PrintLast Go.Proofs.YtonlbeonblpblaaW.PrintMore Go.Proofs.Ytonlbeonblpblaa.Wd
set_option linter.unusedVariables false
set_option linter.unusedSimpArgs false
private theorem ym (motive : Option Value → Sort _) (h1 : (b : Bool) → motive (some (.bool b))) (h2 : (x : Option Value) → motive x) : Go.yielded.match_1 motive (some undef) h1 h2 = h2 (some undef) := rfl
attribute [local go_sem, local simp] ym
theorem grown_other {W w6 : World} {b1 b2 e e2 s1 s2 n1 n2 : Nat} {v v2 : Value} {xs1 xs2 : List Value} (h1 : W.ownsRow b1 e s1 v n1 xs1) (h2 : W.ownsRow b2 e2 s2 v2 n2 xs2) (hne : e ≠ e2) (hg : W.grownBy w6 v.ownBlock) : w6.ownsRow b2 e2 s2 v2 n2 xs2 :=
  ⟨h2.1, h2.2.imp id fun ⟨g, cap, cur, k1, k2, k3, k4⟩ => ⟨g, cap, cur, k1, k2, (hg.block g (lt_heap k3) (fun he => by
    obtain ⟨cur', hc⟩ := own_size h1 _ he.symm
    rw [k3] at hc
    injection hc with hc
    injection hc with _ hc
    exact hne hc.symm)).trans k3, k4⟩⟩
/-- What the rounds keep: the rules that are left, the clashes. -/
structure NI (w wr : World) (v : Value) (m : List Ru) (B : Nat) (A5 : Option Addr) (c5 : Nat) (C : List Cl) : Prop where
  own : wr.ownsRow w.heap.size 24 3 v m.length (rucs m)
  cl : wr.ownsRow B 69 3 (.slice A5 C.length c5) C.length (cls C)
  bel : Below w.heap.size w wr
theorem NI.below {w wr w2 : World} {v : Value} {m : List Ru} {B : Nat} {A5 : Option Addr} {c5 : Nat} {C : List Cl} (h : NI w wr v m B A5 c5 C) (hb : Below wr.heap.size wr w2) : NI w w2 v m B A5 c5 C := ⟨own_below h.own hb, own_below h.cl hb, h.bel.trans (hb.mono h.bel.size)⟩
theorem ni_app {w wr w6 : World} {A9 : Option Addr} {c9 : Nat} {v : Value} {m : List Ru} {B : Nat} {A5 : Option Addr} {c5 : Nat} {C : List Cl} {r : Ru} {o : Obj} (h : NI w wr (.slice A9 m.length c9) m B A5 c5 C) (ho : w6.ownsRow w.heap.size 24 3 v (m.length + 1) (rucs m ++ ruc r)) (hg : (wr.alloc o).grownBy w6 (Value.slice A9 m.length c9).ownBlock) : NI w w6 v (m ++ [r]) B A5 c5 C := by
  have h1 : Below w.heap.size w (wr.alloc o) := below_alloc h.bel _
  refine ⟨?_, grown_other (World.ownsRow.alloc h.own o) (World.ownsRow.alloc h.cl o) (by decide) hg, h1.grown hg h1.size (own_base h.own)⟩
  rw [rucs_app, List.length_append]
  exact ho
theorem NI.cells {w wr : World} {v : Value} {m : List Ru} {B : Nat} {A5 : Option Addr} {c5 : Nat} {C : List Cl} (h : NI w wr v m B A5 c5 C) {k : Nat} (hk : k < C.length) : ∃ q, A5 = some ⟨q, 0, none⟩ ∧ wr.cell? { block := q, off := k * 3 } = some (.int .i64 C[k].i) ∧ wr.cell? { block := q, off := k * 3 + 2 } = some (.int .i64 C[k].y) := by
  obtain ⟨q, cur, e, _, _, _, _, hc⟩ := own_row h.cl (by omega)
  exact ⟨q, e, hc _ _ ((cls_get C k 0 hk (by omega)).trans rfl), hc _ _ ((cls_get C k 2 hk (by omega)).trans rfl)⟩
def nb (i : Nat) (c : Cl) : Bool := decide (c.i = (i : Int)) && decide (c.y = 3)
theorem ndl_any (R : List Ru) (i : Nat) : (chk R R.length).any (nb i) = ndl R i := rfl
theorem any_take {C : List Cl} {k i : Nat} (h : k < C.length) : (C.take (k + 1)).any (nb i) = ((C.take k).any (nb i) || nb i C[k]) := by
  rw [List.take_succ_eq_append_getElem h, List.any_append]
  simp
set_option maxRecDepth 100000 in
set_option maxHeartbeats 4000000 in
theorem needless_skip (A0 P : Option Addr) (c0 cs n : Nat) (R : List Ru) (num now : Int) (w : World) (hR : RuRow w w.heap.size A0 R) (hl : R.length ≤ maxLen) (h : 30 < n ∨ rightL R = false) :
    Calls Try.prog 10 #[.slice A0 R.length c0, .slice P n cs, .int .u64 num, .int .i64 now] w fun e w' => e = .returned (.bool true) ∧ Below w.heap.size w w' := by
  replace hR := Lib.hid hR
  by_cases h30 : 30 < n
  · have q1 : decide ((30 : Int) < (n : Int)) = true := decide_eq_true (by omega)
    go_enter Try.func10, Try.ntmps10
    go_wp2_with (go_at_call 11; refine (awake_calls _).mono ?_; rintro e w1 ⟨rfl, hb1⟩; replace hb1 := Lib.hid hb1)
    go_ret
    exact ⟨rfl, hb1.out⟩
  · have q1 : decide ((30 : Int) < (n : Int)) = false := decide_eq_false (by omega)
    have hv := Lib.hid (rightV_no (h.resolve_left h30))
    clear h
    go_enter Try.func10, Try.ntmps10
    go_wp2_with (first | (go_at_call 11; refine (awake_calls _).mono ?_; rintro e w1 ⟨rfl, hb1⟩; replace hb1 := Lib.hid hb1) | (go_at_call 12; refine (right16_calls (hR.out.up hb1.out) hl).mono ?_; rintro e w2 ⟨rfl, hb2⟩; rw [hv.out]; replace hb2 := Lib.hid (hb1.out.trans (hb2.mono hb1.out.size))))
    go_ret
    exact ⟨rfl, hb2.out⟩
set_option maxRecDepth 100000 in
set_option maxHeartbeats 4000000 in
theorem needless_in (A0 P : Option Addr) (c0 cs : Nat) (R : List Ru) (L : List Int) (num now : Int) (w : World) (hR : RuRow w w.heap.size A0 R) (hr : rightL R = true) (hS : Reads w w.heap.size 1 P L.length (L.map (Value.int .u8))) (hs : Steps L) (h30 : L.length ≤ 30) :
    Calls Try.prog 10 #[.slice A0 R.length c0, .slice P L.length cs, .int .u64 num, .int .i64 now] w fun e w' => e = .returned (.bool true) ∧ Below w.heap.size w w' := by
  have rt : Rt R := ⟨(rightL_parts hr).1, (rightL_parts hr).2⟩
  have hl : R.length ≤ maxLen := Nat.le_trans rt.len (by decide)
  have h16 := rt.len
  have hv := Lib.hid (rightV_yes hr)
  have q0 : decide ((30 : Int) < (L.length : Int)) = false := decide_eq_false (by omega)
  have g := mkM_good hs (Nat.le_refl _) h30
  have RT := Lib.hid rt
  have G := Lib.hid g
  replace hR := Lib.hid hR
  replace hS := Lib.hid hS
  replace hs := Lib.hid hs
  clear hr rt g
  obtain ⟨ir, hir, zr0, zr1, zr2⟩ := info_parts rule_info
  replace hir := Lib.hid hir
  go_enter Try.func10, Try.ntmps10
  go_upto_region 5 with (first | (go_at_call 11; refine (awake_calls _).mono ?_; rintro e w1 ⟨rfl, hb1⟩; replace hb1 := Lib.hid hb1) | (go_at_call 12; refine (right16_calls (hR.out.up hb1.out) hl).mono ?_; rintro e w2 ⟨rfl, hb2⟩; rw [hv.out]; replace hb2 := Lib.hid (hb1.out.trans (hb2.mono hb1.out.size))))
  go_upto_region 6 with (go_at_call 27; refine (check_calls (hR.out.up hb2.out) h16).mono ?_; rintro e w3 ⟨v3, rfl, ck⟩; obtain ⟨A5, c5, rfl, hcap5⟩ := own_slice_cap ck.own; have NI0 : Hid (NI w w3 (.slice none 0 0) (leftL R 0) w2.heap.size A5 c5 (chk R R.length)) := Lib.hid ⟨⟨rfl, .inl ⟨rfl, rfl⟩⟩, ck.own, hb2.out.trans (ck.bel.mono hb2.out.size)⟩; clear ck)
  have hCl : (chk R R.length).length ≤ 256 := Nat.le_trans (chk_len R R.length) (Nat.mul_le_mul h16 h16)
  have HND := Lib.hid (ndl_any R)
  have q3 : decide ((300 : Int) < ((chk R R.length).length : Int)) = false := decide_eq_false (by omega)
  clear hb1 hb2 hv
  generalize w2.heap.size = B5 at *
  generalize chk R R.length = C at *
  go_wp2
  go_loopw [10, 11] (fun v10 v11 wr => ∃ i, v11 = .int .i64 (i : Nat) ∧ i ≤ R.length ∧ Hid (NI w wr v10 (leftL R i) B5 A5 c5 C)) (fun _ v11 _ => R.length - (intOf v11).toNat)
  case atStart => exact ⟨0, rfl, Nat.zero_le _, NI0⟩
  case round =>
    clear NI0
    obtain ⟨i, rfl, hi, NI1⟩ := hrel
    by_cases hlt : i < R.length
    · obtain ⟨ad, rfl, hadb, hra⟩ := (hR.out.below NI1.out.bel) (by omega)
      obtain ⟨c00, c01, c02⟩ := hra i hlt
      rw [← getD_at_ hlt] at c00 c01 c02
      clear hra
      have HL := Lib.hid (leftL_succ R i)
      have hll := leftL_len R i
      have qi : decide ((i : Int) < (R.length : Int)) = true := decide_eq_true (by omega)
      have qi2 : (i : Int) < (R.length : Int) := by omega
      have d1 : IntKind.i64.wrap ((i : Int) + 1) = (i : Int) + 1 := IntWalk.i64_in _ (by omega)
      generalize R.getD i zr = r at *
      have hx0 := Lib.hid (show (leftL R i).length + 1 ≤ maxLen ∧ ((leftL R i).length + 1) * 24 ≤ 140737488355328 by unfold maxLen; omega)
      go_wp2
      go_loop [12, 13] (fun v12 v13 => ∃ k, v13 = .int .i64 (k : Nat) ∧ k ≤ C.length ∧ v12 = .bool ((C.take k).any (nb i))) (fun _ v13 => C.length - (intOf v13).toNat)
      case atStart => exact ⟨0, rfl, Nat.zero_le _, rfl⟩
      case round =>
        obtain ⟨k, rfl, hk, rfl⟩ := hrel
        by_cases hkt : k < C.length
        · obtain ⟨q5, rfl, cc0, cc2⟩ := NI1.out.cells hkt
          have HA := Lib.hid (any_take (i := i) hkt)
          have d2 : IntKind.i64.wrap ((k : Int) + 1) = (k : Int) + 1 := IntWalk.i64_in _ (by omega)
          have qk : decide ((k : Int) < (C.length : Int)) = true := decide_eq_true (by omega)
          have qk2 : (k : Int) < (C.length : Int) := by omega
          have HNB := Lib.hid (show nb i C[k] = (decide (C[k].i = (i : Int)) && decide (C[k].y = 3)) from rfl)
          generalize C[k] = c at *
          obtain ⟨ci, cj, cy⟩ := c
          dsimp only at cc0 cc2 HNB
          have FIN := Lib.hid (show ∀ b, ((C.take k).any (nb i) || nb i ⟨ci, cj, cy⟩) = b → (∃ k', Value.int .i64 ((k : Int) + 1) = .int .i64 (k' : Nat) ∧ k' ≤ C.length ∧ Value.bool b = .bool ((C.take k').any (nb i))) from fun b h => ⟨k + 1, by go_num, by omega, by rw [HA.out, h]⟩)
          generalize (C.take k).any (nb i) = f0 at *
          cases f0 with
          | true =>
            have FN := Lib.hid (FIN.out true (Bool.true_or _))
            clear FIN HA HNB
            go_wp2
            exact ⟨FN.out, by simp [intOf]; omega⟩
          | false =>
            by_cases hci : ci = (i : Int)
            · have q6 : (ci == (i : Int)) = true := beq_iff_eq.2 hci
              by_cases hcy : cy = 3
              · have q7 : (cy == 3) = true := beq_iff_eq.2 hcy
                have FN := Lib.hid (FIN.out true (by rw [HNB.out, hci, hcy]; simp))
                clear FIN HA HNB hci hcy
                go_wp2
                exact ⟨FN.out, by simp [intOf]; omega⟩
              · have q7 : (cy == 3) = false := beq_eq_false_iff_ne.2 hcy
                have FN := Lib.hid (FIN.out false (by rw [HNB.out, decide_eq_false hcy, Bool.and_false]; rfl))
                clear FIN HA HNB hci hcy
                go_wp2
                exact ⟨FN.out, by simp [intOf]; omega⟩
            · have q6 : (ci == (i : Int)) = false := beq_eq_false_iff_ne.2 hci
              have FN := Lib.hid (FIN.out false (by rw [HNB.out, decide_eq_false hci, Bool.false_and]; rfl))
              clear FIN HA HNB hci
              go_wp2
              exact ⟨FN.out, by simp [intOf]; omega⟩
        · obtain rfl : k = C.length := by omega
          rw [List.take_length, HND.out i]
          clear hkt
          cases hnd : ndl R i with
          | true =>
            rw [hnd, if_pos rfl, List.append_nil] at HL
            go_wp2
            go_roundw
            case rel => exact ⟨i + 1, by go_num, by omega, by rw [HL.out]; exact NI1⟩
            case measure => simp [intOf]; omega
          | false =>
            rw [hnd, if_neg (by decide)] at HL
            obtain ⟨A9, c9, rfl, hcap9⟩ := own_slice_cap NI1.out.own
            clear hnd
            generalize leftL R i = m at *
            go_wp2_with (at_builtin
                         refine wpList_append_any _ rfl _ _ 22 rfl w.heap.size 24 ir _ 3 24 Try.underlying22 hir.out zr0 zr1 zr2 rfl (by decide) _ _ _ rfl (World.ownsRow.alloc NI1.out.own (.cells #[.int .i64 r.k, .int .i64 r.l, .int .i64 r.f] 24)) _ _ 1 1 (ruc r) rfl (reads3 (heap_alloc_new wr (.cells #[.int .i64 r.k, .int .i64 r.l, .int .i64 r.f] 24))) (by unfold ruc; simp [Value.oneCell']) hx0.out.1 hx0.out.2 (by have := NI1.out.bel.size; simp; omega) ?_
                         intro v6 w6 ho6 hg6 ha6
                         have NI6 := Lib.hid (ni_app NI1.out ho6 hg6)
                         clear ho6 hg6 ha6)
            go_roundw
            case rel => exact ⟨i + 1, by go_num, by omega, by rw [HL.out]; exact NI6⟩
            case measure => simp [intOf]; omega
    · obtain rfl : i = R.length := by omega
      clear hlt
      have RT2 := Lib.hid (left_rt RT.out)
      have ET := Lib.hid (left_till R G.out num)
      have ES := Lib.hid (left_sy R G.out num now)
      obtain ⟨A6, c6, rfl, hcap6⟩ := own_slice_cap NI1.out.own
      clear HND q3 hCl
      generalize leftL R R.length = m2 at *
      have hb6 := Lib.hid NI1.out.bel
      have C2 : Hid (∀ W, Below wr.heap.size wr W → Calls Try.prog 14 #[.slice A6 m2.length c6] W (CompPost m2 W)) := Lib.hid (fun W h => compile_ok (c0 := c6) (own_ru (own_below NI1.out.own h)) RT2.out.len RT2.out.r)
      clear NI1
      go_upto_region 20 with (go_at_call 14; refine (comp_lw hR.out RT.out hb6.out).mono ?_; rintro e w7 ⟨A, c, ks, rfl, hk7, hm7, hb7⟩; replace hb7 := Lib.hid hb7; replace hk7 := Lib.hid hk7; replace hm7 := Lib.hid hm7)
      have X7 := Lib.hid (below_alloc (Below.refl w7.heap.size w7) (.cells #[.slice A ks.length c, .int .i64 (neverF R).1, .bool (neverF R).2] 32))
      have hb67 := Lib.hid (hb7.out.trans (X7.out.mono hb7.out.size))
      go_upto_region 21 with (go_at_call 14; (with_reducible refine (C2.out _ hb67.out).mono ?_); rintro e w8 ⟨A2, c2, ks2, rfl, hk8, hm8, hb8⟩; replace hb8 := Lib.hid hb8; replace hk8 := Lib.hid hk8; replace hm8 := Lib.hid hm8)
      have X8 := Lib.hid (below_alloc (Below.refl w8.heap.size w8) (.cells #[.slice A2 ks2.length c2, .int .i64 (neverF m2).1, .bool (neverF m2).2] 32))
      have hbw := Lib.hid (hb6.out.trans (hb67.out.mono hb6.out.size))
      have hbw8 := Lib.hid ((hbw.out.trans (hb8.out.mono hbw.out.size)).trans (X8.out.mono (Nat.le_trans hbw.out.size hb8.out.size)))
      have hb88 := Lib.hid (hb8.out.trans (X8.out.mono hb8.out.size))
      go_upto_region 22 with (go_at_call 15; (with_reducible refine (made_calls (B := w.heap.size) (hS.out.below hbw8.out) hbw8.out.size hs.out h30).mono ?_); rintro e w9 ⟨b, gx, rfl, ⟨base, A4, c4, hl1, hl2, hl3, ht4⟩, hx4, hb9⟩; have H1 := Lib.hid (lw_mk RT.out hb6.out hk7.out hm7.out hb7.out (Nat.le_trans hb88.out.size hl1) (Nat.le_trans hb88.out.size hl2) hl3 ⟨_, _, ht4⟩ (hb88.out.trans (hb9.mono hb88.out.size))); have H2 := Lib.hid (lw_mk RT2.out hbw.out hk8.out hm8.out hb8.out hl1 hl2 hl3 ⟨_, _, ht4⟩ hb9); clear hl1 hl2 hl3 ht4 hx4 hb9)
      generalize mkM L L.length = M at *
      clear hk7 hm7 hb7 X7 hb67 hk8 hm8 hb8 X8 hbw hbw8 hb88 hb6 hS hs hR C2 RT RT2
      generalize (w7.alloc (.cells #[.slice A ks.length c, .int .i64 (neverF R).1, .bool (neverF R).2] 32)).heap.size = kb2 at *
      generalize w7.heap.size = qa at *
      generalize w8.heap.size = qb at *
      generalize wr.heap.size = kb1 at *
      have T1 := Lib.hid (fun w5 h => LW.till (w := w) (wr := w5) (R := R) (base := base) (b := b) (kb := kb1) (q := qa) (A := A) (c := c) (ks := ks) h G.out num)
      have T2 := fun w5 h => LW.till (w := w) (wr := w5) (R := m2) (base := base) (b := b) (kb := kb2) (q := qb) (A := A2) (c := c2) (ks := ks2) h G.out num
      have S1 := Lib.hid (fun w5 h => LW.stays (w := w) (wr := w5) (R := R) (base := base) (b := b) (kb := kb1) (q := qa) (A := A) (c := c) (ks := ks) h G.out num now)
      have S2 := fun w5 h => LW.stays (w := w) (wr := w5) (R := m2) (base := base) (b := b) (kb := kb2) (q := qb) (A := A2) (c := c2) (ks := ks2) h G.out num now
      rw [ET.out] at T2
      rw [ES.out] at S2
      replace T2 := Lib.hid T2
      replace S2 := Lib.hid S2
      clear ET ES
      generalize tl R M num = t at *
      generalize sy R M num now = s at *
      have hc9 := And.intro H1.out.cells H2.out.cells
      go_region_held3 (fun w' => (w'.cell? { block := qa, off := 0 } = some (.slice A ks.length c) ∧ w'.cell? { block := qa, off := 1 } = some (.int .i64 (neverF R).1) ∧ w'.cell? { block := qa, off := 2 } = some (.bool (neverF R).2)) ∧ w'.cell? { block := qb, off := 0 } = some (.slice A2 ks2.length c2) ∧ w'.cell? { block := qb, off := 1 } = some (.int .i64 (neverF m2).1) ∧ w'.cell? { block := qb, off := 2 } = some (.bool (neverF m2).2)) (first | exact hc9 | exact hc10 | exact hc11 | exact hc12 | exact hc13)
        ((first
          | (go_at_call 16
             (with_reducible refine (T1.out _ (H1.out.below (below_drew (Below.refl _ _)))).mono ?_)
             rintro e w10 ⟨rfl, hb10⟩
             have H1a := Lib.hid (H1.out.below ((below_drew (Below.refl _ _)).trans hb10))
             have H2a := Lib.hid (H2.out.below ((below_drew (Below.refl _ _)).trans hb10))
             have hc10 := And.intro H1a.out.cells H2a.out.cells
             clear hb10)
          | (go_at_call 16
             (with_reducible refine (T2.out _ H2a.out).mono ?_)
             rintro e w11 ⟨rfl, hb11⟩
             have H1b := Lib.hid (H1a.out.below hb11)
             have H2b := Lib.hid (H2a.out.below hb11)
             have hc11 := And.intro H1b.out.cells H2b.out.cells
             clear hb11)
          | (go_at_call 23
             (with_reducible refine (S1.out _ H1b.out).mono ?_)
             rintro e w12 ⟨rfl, hb12⟩
             have H1c := Lib.hid (H1b.out.below hb12)
             have H2c := Lib.hid (H2b.out.below hb12)
             have hc12 := And.intro H1c.out.cells H2c.out.cells
             clear hb12)
          | (go_at_call 23
             (with_reducible refine (S2.out _ H2c.out).mono ?_)
             rintro e w13 ⟨rfl, hb13⟩
             have H1d := Lib.hid (H1c.out.below hb13)
             have H2d := Lib.hid (H2c.out.below hb13)
             have hc13 := And.intro H1d.out.cells H2d.out.cells
             clear hb13)))
      go_wp2
      go_ret
      exact ⟨by simp, H1d.out.kt.bel⟩
theorem needless_any (A0 : Option Addr) (c0 : Nat) (R : List Ru) (P : Option Addr) (cs : Nat) (L : List Int) (num now : Int) (w : World) (hR : Kd.C kRu w A0 R.length R) (hl : R.length ≤ maxLen) (hS : Kd.C (Kd.int .u8) w P L.length L) (hw : ∀ a ∈ L, (Lit.int .u8 a).wf = true) :
    Calls Try.prog 10 #[.slice A0 R.length c0, .slice P L.length cs, .int .u64 num, .int .i64 now] w fun e w' => e = .returned (.bool true) ∧ Below w.heap.size w w' := by
  by_cases h30 : 30 < L.length
  · exact needless_skip A0 P c0 cs L.length R num now w (ru_row hR) hl (.inl h30)
  · cases hr : rightL R with
    | false => exact needless_skip A0 P c0 cs L.length R num now w (ru_row hR) hl (.inr hr)
    | true => exact needless_in A0 P c0 cs R L num now w (ru_row hR) hr (steps_came hS) (steps_wf hw) (by omega)
end Go.Proofs.Ytonlbeonblpblaa.All
