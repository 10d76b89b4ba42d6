/-
  The document's rules over its table: whether a rule keeps a moment, at which minutes the rules end for it, till when it stays. No condition but that the table and the rules lie as their rows say, numbers and minutes rise, and the rules are right. (Written by gen/docm.py.)
-/
import Derived.Test.YtonlbeonblpblaaMadeO
import Derived.Test.YtonlbeonblpblaaCompiles
namespace Go.Proofs.Ytonlbeonblpblaa.All
open Go.RowKit Go.Proofs.YtonlbeonblpblaaW.PrintWords Go.Proofs.YtonlbeonblpblaaW.PrintLast Go.Proofs.YtonlbeonblpblaaW.PrintMore Go.Proofs.Ytonlbeonblpblaa.Wd
set_option linter.unusedVariables false
set_option linter.unusedSimpArgs false
private theorem ym (motive : Option Value → Sort _) (h1 : (b : Bool) → motive (some (.bool b))) (h2 : (x : Option Value) → motive x) : Go.yielded.match_1 motive (some undef) h1 h2 = h2 (some undef) := rfl
attribute [local go_sem, local simp] ym
theorem mu_up {M : List It} (h : Mu M) : MinUp M := fun a b ha hb hab => by
  rcases Nat.lt_or_ge a b with e | e
  · exact h a b ha hb e
  · obtain rfl : a = b := by omega
    exact Int.le_refl _
theorem XT.below {w w2 : World} {g : Nat} {M : List It} (h : XT w g M) (hb : Below w.heap.size w w2) : XT w2 g M := by
  obtain ⟨An, Am, Ao, cn, cm, co, h2, hc⟩ := h
  exact ⟨_, _, _, _, _, _, h2.below hb, hc⟩
theorem XT.find {w : World} {g : Nat} {M : List It} (h : XT w g M) (gd : Good M) (num : Int) : Calls Try.prog 24 #[.pointer (some ⟨g, 0, none⟩), .int .u64 num] w fun e w' => e = .returned (.int .i64 (findD M num)) ∧ w = w' := by
  obtain ⟨An, Am, Ao, cn, cm, co, h2, hc⟩ := h
  exact rfind_calls gd.up gd.len h2 num
theorem XT.closes {w : World} {g : Nat} {M : List It} (h : XT w g M) (gd : Good M) (mu : Mu M) (num win : Int) : Calls Try.prog 52 #[.pointer (some ⟨g, 0, none⟩), .int .u64 num, .int .i64 win] w fun e w' => e = .returned (.bool (closesM M num win)) ∧ Below w.heap.size w w' := by
  obtain ⟨An, Am, Ao, cn, cm, co, h2, hc⟩ := h
  exact rcloses_calls gd (mu_up mu) h2 num win
theorem XT.quiet {w : World} {g : Nat} {M : List It} (h : XT w g M) (gd : Good M) (num gap : Int) : Calls Try.prog 53 #[.pointer (some ⟨g, 0, none⟩), .int .u64 num, .int .i64 gap] w fun e w' => e = .returned (.bool (quietM M num gap)) ∧ Below w.heap.size w w' := by
  obtain ⟨An, Am, Ao, cn, cm, co, h2, hc⟩ := h
  exact rquiet_calls gd h2 num gap
set_option maxRecDepth 100000 in
set_option maxHeartbeats 2000000 in
theorem rkeeps_calls {M : List It} (gd : Good M) (mu : Mu M) {g : Nat} {w : World} (h : XT w g M) {num : Int} (hh : hit M num = true) (r : Ru) (hr : rightB r = true) :
    Calls Try.prog 43 #[.agg #[.int .i64 r.k, .int .i64 r.l, .int .i64 r.f], .pointer (some ⟨g, 0, none⟩), .int .u64 num] w fun e w' => e = .returned (.bool (keepD M num r)) ∧ Below w.heap.size w w' := by
  have hb0 := below_alloc (Below.refl w.heap.size w) (.cells #[.int .i64 r.k, .int .i64 r.l, .int .i64 r.f] 24)
  have HX := h.below hb0
  have FC := HX.find gd num
  have CC := HX.closes gd mu num r.l
  have QC := HX.quiet gd num r.l
  have HB0 := Lib.hid hb0
  obtain ⟨k, l, f⟩ := r
  have hf : findD M num = (lb M num : Int) := by unfold findD; rw [hh]; rfl
  rw [hf] at FC
  have hk := rightB_k hr
  simp only at hk
  have q0 : decide ((0 : Int) ≤ (lb M num : Int)) = true := decide_eq_true (by omega)
  clear hr hh hf h HX hb0
  generalize lb M num = a at *
  dsimp only at CC QC FC HB0 ⊢
  rcases hk with rfl | rfl | rfl | rfl
  · replace FC := Lib.hid FC
    clear CC QC
    have e1 := Lib.hid (show keepD M num ⟨1, l, f⟩ = true from rfl)
    go_enter Try.func43, Try.ntmps43
    go_wp2_with (go_at_call 24; (with_reducible refine FC.out.mono ?_); rintro e w' ⟨rfl, rfl⟩)
    go_ret
    exact ⟨by rw [e1.out]; rfl, HB0.out⟩
  · have e1 : keepD M num ⟨2, l, f⟩ = closesM M num l := rfl
    cases hc : closesM M num l with
    | true =>
      rw [hc] at CC e1
      replace CC := Lib.hid CC
      replace e1 := Lib.hid e1
      clear FC QC hc
      go_enter Try.func43, Try.ntmps43
      go_wp2_with (go_at_call 52; (with_reducible refine CC.out.mono ?_); rintro e w2 ⟨rfl, hb2⟩; have e0 := cell_of_row w2 w.heap.size 0 _ _ (0, 0) ((hb2.block _ (by simp)).trans (heap_alloc_new w (.cells #[.int .i64 2, .int .i64 l, .int .i64 f] 24))); have hb3 := Lib.hid (HB0.out.trans (hb2.mono HB0.out.size)); clear hb2)
      go_ret
      exact ⟨by rw [e1.out]; rfl, hb3.out⟩
    | false =>
      rw [hc] at CC e1
      replace CC := Lib.hid CC
      replace e1 := Lib.hid e1
      clear FC QC hc
      go_enter Try.func43, Try.ntmps43
      go_wp2_with (go_at_call 52; (with_reducible refine CC.out.mono ?_); rintro e w2 ⟨rfl, hb2⟩; have e0 : w2.cell? { block := w.heap.size, off := 0 } = some (.int .i64 2) := cell_of_row w2 w.heap.size 0 _ _ (0, 0) ((hb2.block _ (by simp)).trans (heap_alloc_new w (.cells #[.int .i64 2, .int .i64 l, .int .i64 f] 24))); have hb3 := Lib.hid (HB0.out.trans (hb2.mono HB0.out.size)); clear hb2)
      go_ret
      exact ⟨by rw [e1.out]; rfl, hb3.out⟩
  · have e1 : keepD M num ⟨3, l, f⟩ = quietM M num l := rfl
    generalize quietM M num l = qb at *
    replace QC := Lib.hid QC
    replace e1 := Lib.hid e1
    clear FC CC
    go_enter Try.func43, Try.ntmps43
    go_wp2_with (go_at_call 53; (with_reducible refine QC.out.mono ?_); rintro e w2 ⟨rfl, hb2⟩; have hb3 := Lib.hid (HB0.out.trans (hb2.mono HB0.out.size)); clear hb2)
    go_ret
    exact ⟨by rw [e1.out]; rfl, hb3.out⟩
  · have e1 := Lib.hid (show keepD M num ⟨4, l, f⟩ = false from rfl)
    clear FC CC QC
    go_enter Try.func43, Try.ntmps43
    go_wp2
    go_ret
    exact ⟨by rw [e1.out]; rfl, HB0.out⟩
theorem blk_alloc1 {w : World} {g : Nat} {o : Obj} (h : w.heap[g]? = some o) (o' : Obj) : (w.alloc o').heap[g]? = some o := (Below.heap_alloc w o' g (lt_heap h)).trans h
theorem own_ins {w3 W w : World} {xs : List Int} {mv : Int} {k : Nat} {v3 : Value} {ys : List Int} (hy : ys = xs.take k ++ [mv] ++ xs.drop k ∧ k ≤ xs.length) (hw : w.heap.size ≤ W.heap.size)
    (h : w3.ownsRow W.heap.size 3 1 v3 (0 + k + 1 + (xs.length - k)) ((xs.map (Value.int .i64)).take k ++ [.int .i64 mv] ++ (xs.map (Value.int .i64)).drop k)) : w3.ownsRow w.heap.size 3 1 v3 ys.length (ys.map (Value.int .i64)) := by
  obtain ⟨rfl, hk⟩ := hy
  have e1 : (xs.take k ++ [mv] ++ xs.drop k).length = 0 + k + 1 + (xs.length - k) := by
    simp only [List.length_append, List.length_take, List.length_drop, List.length_singleton]
    omega
  have e2 : (xs.take k ++ [mv] ++ xs.drop k).map (Value.int .i64) = (xs.map (Value.int .i64)).take k ++ [.int .i64 mv] ++ (xs.map (Value.int .i64)).drop k := by
    rw [List.map_append, List.map_append, List.map_take, List.map_drop]
    rfl
  rw [e1, e2]
  exact own_mono1 h hw
theorem bool_tail {a b : Bool} (h : a = b) : Ending.returned (.bool a) = .returned (.bool b) := by rw [h]
set_option maxRecDepth 100000 in
set_option maxHeartbeats 4000000 in
theorem rmins_none {M : List It} (gd : Good M) {g : Nat} {w : World} (h : XT w g M) {num : Int} (hh : hit M num = false) (R : List Ru) (A0 : Option Addr) (c0 : Nat) :
    Calls Try.prog 21 #[.slice A0 R.length c0, .pointer (some ⟨g, 0, none⟩), .int .u64 num] w fun e w' => ∃ v, e = .returned v ∧ w'.ownsRow w.heap.size 3 1 v (mn R M num).length ((mn R M num).map (Value.int .i64)) ∧ Below w.heap.size w w' := by
  have FC := h.find gd num
  rw [show findD M num = -1 by unfold findD; rw [hh]; rfl] at FC
  replace FC := Lib.hid FC
  have e1 := Lib.hid (show mn R M num = [] from mins_no hh _ _)
  clear hh h
  go_enter Try.func21, Try.ntmps21
  go_wp2_with (go_at_call 24; (with_reducible refine FC.out.mono ?_); rintro e w' ⟨rfl, rfl⟩)
  go_ret
  exact ⟨.slice none 0 0, rfl, by rw [e1.out]; exact ⟨rfl, .inl ⟨rfl, rfl⟩⟩, Below.refl _ _⟩
set_option maxRecDepth 100000 in
set_option maxHeartbeats 4000000 in
theorem rmins_some {M : List It} (gd : Good M) (mu : Mu M) {g : Nat} {w : World} (h : XT w g M) {num : Int} (hh : hit M num = true) {R : List Ru} (rt : Rt R) {A0 : Option Addr} {c0 : Nat} (hR : RuRow w w.heap.size A0 R) :
    Calls Try.prog 21 #[.slice A0 R.length c0, .pointer (some ⟨g, 0, none⟩), .int .u64 num] w fun e w' => ∃ v, e = .returned v ∧ w'.ownsRow w.heap.size 3 1 v (mn R M num).length ((mn R M num).map (Value.int .i64)) ∧ Below w.heap.size w w' := by
  obtain ⟨i0, hi, hz0, hz1, hz2⟩ := info_parts int_info
  have hi' := Lib.hid hi
  clear hi
  have FC := h.find gd num
  rw [show findD M num = (lb M num : Int) by unfold findD; rw [hh]; rfl] at FC
  replace FC := Lib.hid FC
  have HX := Lib.hid h
  obtain ⟨An, Am, Ao, cn, cm, co, h2, hcap⟩ := h
  obtain ⟨x0, x1, x2, _⟩ := h2.cells
  obtain ⟨hat, hn, hmm⟩ := hit_at hh
  obtain ⟨qm, rfl, ca⟩ := h2.m.at_ (k := lb M num) (by simpa using hat)
  rw [List.getElem_map, ← hmm] at ca
  obtain ⟨m0, m1⟩ := minM_rng gd num
  have hl16 := rt.len
  have RN := Lib.hid (rnever_calls (c0 := c0) hR (Nat.le_trans rt.len (by decide)))
  have HN := rt.n
  have EN := Lib.hid (minsD_is hh R)
  have SP := Lib.hid (minsD_spec M num (neverF R) R)
  have ST := Lib.hid (fun i (h : i < R.length) => minsD_take M num (neverF R) h)
  have KC := Lib.hid (fun (w2 : World) (hb : Below w.heap.size w w2) (r : Ru) (hr : r ∈ R) => rkeeps_calls gd mu (HX.out.below hb) hh r (rt.r r hr))
  have RT := Lib.hid rt
  replace hR := Lib.hid hR
  clear h2 hcap hn hmm hh gd mu rt
  obtain ⟨N1, N2⟩ : Int × Bool := ⟨(neverF R).1, (neverF R).2⟩
  obtain ⟨NV, hNV⟩ : ∃ NV, neverF R = NV := ⟨_, rfl⟩
  rw [hNV] at RN HN EN SP ST
  clear hNV N1 N2
  obtain ⟨N1, N2⟩ := NV
  dsimp only at RN HN
  have q0 : decide ((lb M num : Int) < 0) = false := decide_eq_false (by omega)
  obtain ⟨wm, hwm⟩ : ∃ wm, minM M num = wm := ⟨_, rfl⟩
  rw [hwm] at ca m0 m1
  have HWM := Lib.hid hwm
  clear hwm
  generalize lb M num = a at *
  go_enter Try.func21, Try.ntmps21
  go_upto_region 6 with (first
    | (go_at_call 24; (with_reducible refine FC.out.mono ?_); rintro e w' ⟨rfl, rfl⟩)
    | (go_at_call 20; (with_reducible refine RN.out.mono ?_); rintro e w' ⟨rfl, rfl⟩))
  clear FC RN x0 x1 x2 ca
  go_wp2
  go_loopw [11, 12] (fun v11 v12 wr => ∃ i : Nat, v12 = .int .i64 i ∧ i ≤ R.length ∧ Hid (wr.ownsRow w.heap.size 3 1 v11 (minsD M num (N1, N2) (R.take i)).length ((minsD M num (N1, N2) (R.take i)).map (Value.int .i64))) ∧ Hid (Below w.heap.size w wr)) (fun _ v12 _ => R.length - (intOf v12).toNat)
  case atStart => exact ⟨0, rfl, Nat.zero_le _, Lib.hid ⟨rfl, .inl ⟨rfl, rfl⟩⟩, Lib.hid (Below.refl _ _)⟩
  case round =>
    obtain ⟨i, rfl, hi, HO, HB⟩ := hrel
    by_cases hlt : i < R.length
    · have hi1 := Lib.hid (show i + 1 ≤ R.length by omega)
      have hme := Lib.hid (show R.length - (i + 1) < R.length - i by omega)
      obtain ⟨ad, rfl, hbl, hc⟩ := (hR.out.below HB.out) (by omega)
      obtain ⟨c1, c2, c3⟩ := hc i hlt
      have hra := rightB_f (RT.out.r _ (List.getElem_mem hlt))
      have KC1 := KC.out wr HB.out _ (List.getElem_mem hlt)
      have hys := ST.out i hlt
      have hle := (SP.out i (by omega)).2.1
      obtain ⟨ys, hY⟩ : ∃ ys, minsD M num (N1, N2) (R.take (i + 1)) = ys := ⟨_, rfl⟩
      rw [hY] at hys
      replace hY := Lib.hid hY
      generalize R[i] = r at *
      generalize minsD M num (N1, N2) (R.take i) = xs at *
      obtain ⟨A9, c9, hv9, hcap9⟩ := own_slice_cap HO.out
      subst hv9
      have d1 : IntKind.i64.wrap ((i : Int) + 1) = (i : Int) + 1 := IntWalk.i64_in _ (by omega)
      have q3 : (i : Int) < (R.length : Int) := by omega
      have hbl2 := Lib.hid (fun (w2 : World) (hb : Below wr.heap.size wr w2) => hb.cell (p := { block := (ad.add (i * 3)).block, off := (ad.add (i * 3)).off + 2 }) (by rw [block_of_add]; exact Nat.lt_of_lt_of_le hbl HB.out.size))
      clear hc
      cases hkp : keepD M num r with
      | false =>
        rw [hkp] at KC1
        replace KC1 := Lib.hid KC1
        have HY := Lib.hid (show ys = xs by rw [hys]; unfold stepD; rw [if_neg (by rw [hkp]; decide)])
        clear hkp hys
        obtain ⟨rk, rl, rf⟩ := r
        dsimp only at c1 c2 c3 KC1
        go_wp2_with (go_at_call 43; (with_reducible refine KC1.out.mono ?_); rintro e w2 ⟨rfl, hb2⟩; have HO2 := Lib.hid (own_below HO.out hb2); have HB2 := Lib.hid (HB.out.trans (hb2.mono HB.out.size)); clear hb2)
        go_roundw
        case rel => exact ⟨i + 1, by go_num, hi1.out, by rw [hY.out, HY.out]; exact HO2, HB2⟩
        case measure => simp [intOf]; have := hme.out; omega
      | true =>
        rw [hkp] at KC1
        have hyi : ys = insI xs (wm + spanN (N1, N2) r) := by rw [hys, ← HWM.out]; unfold stepD; rw [if_pos hkp]
        clear hkp hys
        obtain ⟨rk, rl, rf⟩ := r
        dsimp only at c1 c2 c3 KC1 hra
        have d3 : IntKind.i64.wrap (wm + rf) = wm + rf := IntWalk.i64_in _ (by omega)
        have d4 : IntKind.i64.wrap (wm + N1) = wm + N1 := IntWalk.i64_in _ (by omega)
        have HSP : Hid ((N2 = false ∧ spanN (N1, N2) ⟨rk, rl, rf⟩ = rf) ∨ (N2 = true ∧ ¬ wm + N1 < wm + rf ∧ spanN (N1, N2) ⟨rk, rl, rf⟩ = rf) ∨ (N2 = true ∧ wm + N1 < wm + rf ∧ spanN (N1, N2) ⟨rk, rl, rf⟩ = N1)) := Lib.hid (by
          unfold spanN
          cases N2 with
          | false => exact .inl ⟨rfl, rfl⟩
          | true =>
            rw [if_pos rfl]
            by_cases e : wm + N1 < wm + rf
            · exact .inr (.inr ⟨rfl, e, by show min rf N1 = N1; omega⟩)
            · exact .inr (.inl ⟨rfl, e, by show min rf N1 = rf; omega⟩))
        generalize spanN (N1, N2) ⟨rk, rl, rf⟩ = sp at *
        have HYI := Lib.hid hyi
        clear hyi
        have HNx := Lib.hid HN
        have hrx := Lib.hid hra
        have hm0 := Lib.hid m0
        clear HN hra
        replace KC1 := Lib.hid KC1
        rcases HSP.out with ⟨rfl, rfl⟩ | ⟨rfl, hq, rfl⟩ | ⟨rfl, hq, rfl⟩
        all_goals
          clear HSP
          try have hq1 := decide_eq_false hq
          try have hq1 := decide_eq_true hq
          go_upto_region 14 with (go_at_call 43; (with_reducible refine KC1.out.mono ?_); rintro e w2 ⟨rfl, hb2⟩; have HO2 := Lib.hid (own_below HO.out hb2); have HB2 := Lib.hid (HB.out.trans (hb2.mono HB.out.size)); have c4 := (hbl2.out w2 hb2).trans c3; clear hb2)
          clear HO HB c1 c2 c3 c4 KC1 hbl hbl2 d3 d4
          try clear hq hq1
          obtain ⟨mv, hmv⟩ : ∃ mv, mv = wm + sp := ⟨_, rfl⟩
          rw [← hmv] at HYI ⊢
          clear hmv
          have HO := HO2
          have HB := HB2
          clear HO2 HB2
          generalize w2 = wr at *
          go_wp2
          go_loop [14] (fun v14 => ∃ k : Nat, v14 = .int .i64 k ∧ k ≤ xs.length ∧ Hid (∀ t (h : t < xs.length), t < k → xs[t] < mv)) (fun v14 => xs.length - (intOf v14).toNat)
          case atStart => exact ⟨0, rfl, Nat.zero_le _, Lib.hid (fun t _ h => absurd h (Nat.not_lt_zero _))⟩
          case round =>
            obtain ⟨k, rfl, hkx, HI⟩ := hrel
            have e0 : (0 : Int) ≤ (k : Int) := by omega
            by_cases hkl : k < xs.length
            · obtain ⟨q9, hA9, hcell⟩ := own_cell HO.out hkl
              subst hA9
              have q5 : (k : Int) < (xs.length : Int) := by omega
              have q6 : ((k : Int) == (xs.length : Int)) = false := beq_eq_false_iff_ne.2 (by omega)
              have HXK := Lib.hid (show ∃ y, xs[k] = y from ⟨_, rfl⟩)
              by_cases hx : xs[k] < mv
              · have hx1 := decide_eq_true hx
                have HI2 := Lib.hid (show ∀ t (h : t < xs.length), t < k + 1 → xs[t] < mv from fun t h ht => by
                  by_cases e : t = k
                  · subst e; exact hx
                  · exact HI.out t h (by omega))
                have hk1 := Lib.hid (show k + 1 ≤ xs.length from hkl)
                have hm2 := Lib.hid (show xs.length - (k + 1) < xs.length - k by omega)
                have dk : IntKind.i64.wrap ((k : Int) + 1) = (k : Int) + 1 := IntWalk.i64_in _ (by omega)
                clear HXK HI
                generalize xs[k] = y at *
                clear hx
                go_wp2
                go_round
                case rel => exact ⟨k + 1, by go_num, hk1.out, HI2⟩
                case measure => simp [intOf]; have := hm2.out; omega
              · have hx1 := decide_eq_false hx
                have HK : insK xs mv = k := insK_eq hkx HI.out (fun _ => hx)
                by_cases he : xs[k] = mv
                · have q7 : (xs[k] == mv) = true := beq_iff_eq.2 he
                  have HYX := Lib.hid (show ys = xs by rw [HYI.out]; unfold insI; rw [HK, List.getElem?_eq_getElem hkl, he, if_pos rfl])
                  clear HXK HI HK he hx
                  generalize xs[k] = y at *
                  go_wp2
                  go_roundw
                  case rel => exact ⟨i + 1, by go_num, hi1.out, by rw [hY.out, HYX.out]; exact HO, HB⟩
                  case measure => simp [intOf]; have := hme.out; omega
                · have q7 : (xs[k] == mv) = false := beq_eq_false_iff_ne.2 he
                  have HYS := Lib.hid (show ys = xs.take k ++ [mv] ++ xs.drop k ∧ k ≤ xs.length from ⟨by rw [HYI.out]; unfold insI; rw [HK, List.getElem?_eq_getElem hkl, if_neg (by intro e; injection e with e; exact he e)], hkx⟩)
                  clear HXK HI HK he hx
                  generalize xs[k] = y at *
                  go_upto_region 18 with fail
                  clear hcell q5 q6 q7 hx1 HYI hkl
                  obtain ⟨A9, hA9⟩ : ∃ A9 : Option Addr, A9 = some ⟨q9, 0, none⟩ := ⟨_, rfl⟩
                  simp only [← hA9] at HO ⊢
                  clear hA9
                  have hxl := hle
                  have hx1 := Lib.hid (show 0 + k ≤ maxLen ∧ 0 + k + 1 ≤ maxLen ∧ 0 + k + 1 + (xs.length - k) ≤ maxLen by unfold maxLen; omega)
                  have hx8 := Lib.hid (show (0 + k) * 8 ≤ 140737488355328 ∧ (0 + k + 1) * 8 ≤ 140737488355328 ∧ (0 + k + 1 + (xs.length - k)) * 8 ≤ 140737488355328 by omega)
                  have ho := Lib.hid (show (∀ u ∈ (xs.map (Value.int .i64)).take k, u.oneCell' = true) ∧ (∀ u ∈ (xs.map (Value.int .i64)).drop k, u.oneCell' = true) from ⟨fun u hu => by have := List.mem_of_mem_take hu; simp at this; obtain ⟨_, _, rfl⟩ := this; rfl, fun u hu => by have := List.mem_of_mem_drop hu; simp at this; obtain ⟨_, _, rfl⟩ := this; rfl⟩)
                  have e1 : (k : Int) ≤ (xs.length : Int) := by omega
                  have e2 : (k : Int) ≤ (c9 : Int) := by omega
                  have e3 : (xs.length : Int) ≤ (c9 : Int) := by omega
                  clear hxl
                  have RW := Lib.hid (Reads.of_own HO.out)
                  have R1 := Lib.hid (show Reads wr.drew wr.drew.heap.size 1 _ k ((xs.map (Value.int .i64)).take k) from reads_take1 RW.out hkx)
                  have R2 := Lib.hid (show Reads wr.drew wr.drew.heap.size 1 (if c9 = k then A9 else A9.map (·.add k)) (xs.length - k) ((xs.map (Value.int .i64)).drop k) from reads_cut1 RW.out hkx hcap9)
                  have HW := Lib.hid (show Below w.heap.size w wr.drew from below_drew HB.out)
                  refine wp_region_heldL (S := fun _ => True) #[false, false, false, false, false, false, false, false, false, false, false, false, false] (by kernel_rfl) 13 (by kernel_rfl) (by kernel_rfl) trivial (fun hHeld => ?_)
                  clear RW
                  generalize wr.drew = W at *
                  refine wpAnyH_takeL 1 #[false, true, false, false, false, false, false, false, false, false, false, false, false] (by kernel_rfl) (by kernel_rfl) (by kernel_rfl) (by kernel_rfl) (fun d v c a w h => by cases d <;> exact h) trivial ⟨?_, ?_, ?_, Or.inl ⟨?_, ?_⟩, ?_⟩
                  rotate_left
                  · simp only [List.getElem?_toArray, List.getElem?_cons_zero, List.getElem?_cons_succ]; rfl
                  rotate_left
                  · rfl
                  · intro w hSw; go_simp; try (with_reducible rfl)
                  simp only [Act.put, List.setIfInBounds_toArray, List.set_cons_zero, List.set_cons_succ]
                  refine wpAnyH_takeL 2 #[false, true, true, false, false, false, false, false, false, false, false, false, false] (by kernel_rfl) (by kernel_rfl) (by kernel_rfl) (by kernel_rfl) (fun d v c a w h => by cases d <;> exact h) trivial ⟨?_, ?_, ?_, Or.inl ⟨?_, ?_⟩, ?_⟩
                  rotate_left
                  · simp only [List.getElem?_toArray, List.getElem?_cons_zero, List.getElem?_cons_succ]; rfl
                  rotate_left
                  · rfl
                  · intro w hSw; go_simp; try (with_reducible rfl)
                  simp only [Act.put, List.setIfInBounds_toArray, List.set_cons_zero, List.set_cons_succ]
                  refine wpAnyH_takeL 3 #[false, true, true, true, false, false, false, false, false, false, false, false, false] (by kernel_rfl) (by kernel_rfl) (by kernel_rfl) (by kernel_rfl) (fun d v c a w h => by cases d <;> exact h) trivial ⟨?_, ?_, ?_, Or.inl ⟨?_, ?_⟩, ?_⟩
                  rotate_left
                  · simp only [List.getElem?_toArray, List.getElem?_cons_zero, List.getElem?_cons_succ]; rfl
                  rotate_left
                  · rfl
                  · intro w hSw; go_simp; try (with_reducible rfl)
                  simp only [Act.put, List.setIfInBounds_toArray, List.set_cons_zero, List.set_cons_succ]
                  refine wpAnyH_takeL 5 #[false, true, true, true, false, true, false, false, false, false, false, false, false] (by kernel_rfl) (by kernel_rfl) (by kernel_rfl) (by kernel_rfl) (fun d v c a w h => by cases d <;> exact h) trivial ⟨?_, ?_, ?_, Or.inl ⟨?_, ?_⟩, ?_⟩
                  rotate_left
                  · simp only [List.getElem?_toArray, List.getElem?_cons_zero, List.getElem?_cons_succ]; rfl
                  rotate_left
                  · rfl
                  · intro w hSw; go_simp; try (with_reducible rfl)
                  simp only [Act.put, List.setIfInBounds_toArray, List.set_cons_zero, List.set_cons_succ]
                  refine wpAnyH_takeL 8 #[false, true, true, true, false, true, false, false, true, false, false, false, false] (by kernel_rfl) (by kernel_rfl) (by kernel_rfl) (by kernel_rfl) (fun d v c a w h => by cases d <;> exact h) trivial ⟨?_, ?_, ?_, Or.inl ⟨?_, ?_⟩, ?_⟩
                  rotate_left
                  · simp only [List.getElem?_toArray, List.getElem?_cons_zero, List.getElem?_cons_succ]; rfl
                  rotate_left
                  · rfl
                  · intro w hSw; go_simp; try (with_reducible rfl)
                  simp only [Act.put, List.setIfInBounds_toArray, List.set_cons_zero, List.set_cons_succ]
                  refine wpAnyH_takeL 9 #[false, true, true, true, false, true, false, false, true, true, false, false, false] (by kernel_rfl) (by kernel_rfl) (by kernel_rfl) (by kernel_rfl) (fun d v c a w h => by cases d <;> exact h) trivial ⟨?_, ?_, ?_, Or.inl ⟨?_, ?_⟩, ?_⟩
                  rotate_left
                  · simp only [List.getElem?_toArray, List.getElem?_cons_zero, List.getElem?_cons_succ]; rfl
                  rotate_left
                  · rfl
                  · intro w hSw; go_simp; try (with_reducible rfl)
                  simp only [Act.put, List.setIfInBounds_toArray, List.set_cons_zero, List.set_cons_succ]
                  refine wpAnyH_takeL 10 #[false, true, true, true, false, true, false, false, true, true, true, false, false] (by kernel_rfl) (by kernel_rfl) (by kernel_rfl) (by kernel_rfl) (fun d v c a w h => by cases d <;> exact h) trivial ⟨?_, ?_, ?_, Or.inl ⟨?_, ?_⟩, ?_⟩
                  rotate_left
                  · simp only [List.getElem?_toArray, List.getElem?_cons_zero, List.getElem?_cons_succ]; rfl
                  rotate_left
                  · rfl
                  · intro w hSw; go_simp; try (with_reducible rfl)
                  simp only [Act.put, List.setIfInBounds_toArray, List.set_cons_zero, List.set_cons_succ]
                  refine wpAnyH_ready (rs := [0, 6]) (by kernel_rfl) (by simp) ?_
                  refine AllReadyH.cons1 ⟨?_, ?_, fun K hK => ?_⟩ ?_
                  rotate_left
                  · simp only [List.getElem?_toArray, List.getElem?_cons_zero, List.getElem?_cons_succ]; rfl
                  · skip
                    go_simp
                    refine hK.out _ _ trivial (fun _ => ?_)
                    clear hK K
                    try simp only [Act.put, List.setIfInBounds_toArray, List.set_cons_zero, List.set_cons_succ]
                    refine wpAnyH_ready (rs := [4, 6]) (by kernel_rfl) (by simp) ?_
                    refine AllReadyH.cons1 ⟨?_, ?_, fun K hK => ?_⟩ ?_
                    rotate_left
                    · simp only [List.getElem?_toArray, List.getElem?_cons_zero, List.getElem?_cons_succ]; rfl
                    · skip
                      refine step_append_any _ rfl (.tmp 90) (.tmp 93) 44 rfl W.heap.size 3 i0 _ 1 8 Try.underlying44 hi'.out hz0 hz1 hz2 rfl (by decide) _ 0 [] rfl (own_empty1 W _ 3 _ (Nat.le_refl _) rfl) W.heap.size _ k c9 _ rfl (R1.out.below (below_alloc (Below.refl W.heap.size W) (.cells #[] 3))) ho.out.1 hx1.out.1 hx8.out.1 ((below_alloc (Below.refl W.heap.size W) (.cells #[] 3))).size ?_
                      intro v1 w1 ho1 hg1 ha1
                      rw [List.nil_append] at ho1
                      have hb1 := Lib.hid (below_via1 (below_alloc (Below.refl W.heap.size W) (.cells #[] 3)) hg1 rfl rfl rfl rfl ((below_alloc (Below.refl W.heap.size W) (.cells #[] 3))).size (own_base (own_empty1 W _ 3 _ (Nat.le_refl _) rfl)))
                      replace ho1 := Lib.hid ho1
                      clear ha1 hg1
                      refine hK.out _ _ trivial (fun _ => ?_)
                      clear hK K
                      try simp only [Act.put, List.setIfInBounds_toArray, List.set_cons_zero, List.set_cons_succ]
                      refine wpAnyH_ready (rs := [6]) (by kernel_rfl) (by simp) ?_
                      refine AllReadyH.cons1 ⟨?_, ?_, fun K hK => ?_⟩ AllReadyH.nil
                      rotate_left
                      · simp only [List.getElem?_toArray, List.getElem?_cons_zero, List.getElem?_cons_succ]; rfl
                      go_simp
                      refine hK.out _ _ trivial (fun _ => ?_)
                      clear hK K
                      try simp only [Act.put, List.setIfInBounds_toArray, List.set_cons_zero, List.set_cons_succ]
                      refine wpAnyH_ready (rs := [7]) (by kernel_rfl) (by simp) ?_
                      refine AllReadyH.cons1 ⟨?_, ?_, fun K hK => ?_⟩ AllReadyH.nil
                      rotate_left
                      · simp only [List.getElem?_toArray, List.getElem?_cons_zero, List.getElem?_cons_succ]; rfl
                      refine step_append_any _ rfl (.tmp 94) (.tmp 96) 44 rfl W.heap.size 3 i0 _ 1 8 Try.underlying44 hi'.out hz0 hz1 hz2 rfl (by decide) v1 (0 + k) _ rfl (World.ownsRow.alloc ho1.out (.cells #[.int .i64 mv] 3)) _ _ 1 1 [.int .i64 mv] rfl (reads_one (heap_alloc_new w1 (.cells #[.int .i64 mv] 3))) (by simp [Value.oneCell']) hx1.out.2.1 hx8.out.2.1 ((below_alloc hb1.out (.cells #[.int .i64 mv] 3))).size ?_
                      intro v2 w2 ho2 hg2 ha2
                      have hb2 := Lib.hid (below_via1 (below_alloc hb1.out (.cells #[.int .i64 mv] 3)) hg2 rfl rfl rfl rfl ((below_alloc hb1.out (.cells #[.int .i64 mv] 3))).size (own_base (World.ownsRow.alloc ho1.out (.cells #[.int .i64 mv] 3))))
                      replace ho2 := Lib.hid ho2
                      clear ha2 hg2
                      refine hK.out _ _ trivial (fun _ => ?_)
                      clear hK K
                      try simp only [Act.put, List.setIfInBounds_toArray, List.set_cons_zero, List.set_cons_succ]
                      refine wpAnyH_ready (rs := [11]) (by kernel_rfl) (by simp) ?_
                      refine AllReadyH.cons1 ⟨?_, ?_, fun K hK => ?_⟩ AllReadyH.nil
                      rotate_left
                      · simp only [List.getElem?_toArray, List.getElem?_cons_zero, List.getElem?_cons_succ]; rfl
                      refine step_append_any _ rfl (.tmp 97) (.tmp 100) 44 rfl W.heap.size 3 i0 _ 1 8 Try.underlying44 hi'.out hz0 hz1 hz2 rfl (by decide) v2 (0 + k + 1) _ rfl ho2.out W.heap.size _ (xs.length - k) (c9 - k) _ rfl (R2.out.below hb2.out) ho.out.2 hx1.out.2.2 hx8.out.2.2 hb2.out.size ?_
                      intro v3 w3 ho3 hg3 ha3
                      have hb3 := Lib.hid (below_via1 hb2.out hg3 rfl rfl rfl rfl hb2.out.size (own_base ho2.out))
                      replace ho3 := Lib.hid ho3
                      clear ha3 hg3
                      refine hK.out _ _ trivial (fun _ => ?_)
                      clear hK K
                      try simp only [Act.put, List.setIfInBounds_toArray, List.set_cons_zero, List.set_cons_succ]
                      refine wpAnyH_ready (rs := [12]) (by kernel_rfl) (by simp) ?_
                      refine AllReadyH.cons1 ⟨?_, ?_, fun K hK => ?_⟩ AllReadyH.nil
                      rotate_left
                      · simp only [List.getElem?_toArray, List.getElem?_cons_zero, List.getElem?_cons_succ]; rfl
                      go_simp
                      refine hK.out _ _ trivial (fun _ => ?_)
                      clear hK K
                      try simp only [Act.put, List.setIfInBounds_toArray, List.set_cons_zero, List.set_cons_succ]
                      refine wpAnyH_done (by kernel_rfl) ?_ _
                      have HO4 := Lib.hid (show w3.ownsRow w.heap.size 3 1 v3 ys.length (ys.map (Value.int .i64)) from own_ins HYS.out HW.out.size ho3.out)
                      have HB4 := Lib.hid (HW.out.trans (hb3.out.mono HW.out.size))
                      clear hb1 hb2 hb3 ho1 ho2 ho3 R1 R2 HW HO HB
                      go_wp2
                      go_roundw
                      case rel => exact ⟨i + 1, by go_num, hi1.out, by rw [hY.out]; exact HO4, HB4⟩
                      case measure => simp [intOf]; have := hme.out; omega
                    refine AllReadyH.cons1 ⟨?_, ?_, fun K hK => ?_⟩ AllReadyH.nil
                    rotate_left
                    · simp only [List.getElem?_toArray, List.getElem?_cons_zero, List.getElem?_cons_succ]; rfl
                    go_simp
                    refine hK.out _ _ trivial (fun _ => ?_)
                    clear hK K
                    try simp only [Act.put, List.setIfInBounds_toArray, List.set_cons_zero, List.set_cons_succ]
                    refine wpAnyH_ready (rs := [4]) (by kernel_rfl) (by simp) ?_
                    refine AllReadyH.cons1 ⟨?_, ?_, fun K hK => ?_⟩ AllReadyH.nil
                    rotate_left
                    · simp only [List.getElem?_toArray, List.getElem?_cons_zero, List.getElem?_cons_succ]; rfl
                    refine step_append_any _ rfl (.tmp 90) (.tmp 93) 44 rfl W.heap.size 3 i0 _ 1 8 Try.underlying44 hi'.out hz0 hz1 hz2 rfl (by decide) _ 0 [] rfl (World.ownsRow.alloc (own_empty1 W _ 3 _ (Nat.le_refl _) rfl) (.cells #[.int .i64 mv] 3)) W.heap.size _ k c9 _ rfl (R1.out.below (below_alloc (below_alloc (Below.refl W.heap.size W) (.cells #[] 3)) (.cells #[.int .i64 mv] 3))) ho.out.1 hx1.out.1 hx8.out.1 ((below_alloc (below_alloc (Below.refl W.heap.size W) (.cells #[] 3)) (.cells #[.int .i64 mv] 3))).size ?_
                    intro v1 w1 ho1 hg1 ha1
                    rw [List.nil_append] at ho1
                    have hb1 := Lib.hid (below_via1 (below_alloc (below_alloc (Below.refl W.heap.size W) (.cells #[] 3)) (.cells #[.int .i64 mv] 3)) hg1 rfl rfl rfl rfl ((below_alloc (below_alloc (Below.refl W.heap.size W) (.cells #[] 3)) (.cells #[.int .i64 mv] 3))).size (own_base (World.ownsRow.alloc (own_empty1 W _ 3 _ (Nat.le_refl _) rfl) (.cells #[.int .i64 mv] 3))))
                    have hm0 : ((W.alloc (.cells #[] 3)).alloc (.cells #[.int .i64 mv] 3)).heap[W.heap.size + 1]? = some (.cells #[.int .i64 mv] 3) := by have := heap_alloc_new (W.alloc (.cells #[] 3)) (.cells #[.int .i64 mv] 3); rwa [World.size_alloc] at this
                    have hm1 := Lib.hid ((hg1.block (W.heap.size + 1) (by simp) (fun e => by injection e with e; exact absurd e (Nat.succ_ne_self _))).trans hm0)
                    clear hm0
                    replace ho1 := Lib.hid ho1
                    clear ha1 hg1
                    refine hK.out _ _ trivial (fun _ => ?_)
                    clear hK K
                    try simp only [Act.put, List.setIfInBounds_toArray, List.set_cons_zero, List.set_cons_succ]
                    refine wpAnyH_ready (rs := [7]) (by kernel_rfl) (by simp) ?_
                    refine AllReadyH.cons1 ⟨?_, ?_, fun K hK => ?_⟩ AllReadyH.nil
                    rotate_left
                    · simp only [List.getElem?_toArray, List.getElem?_cons_zero, List.getElem?_cons_succ]; rfl
                    refine step_append_any _ rfl (.tmp 94) (.tmp 96) 44 rfl W.heap.size 3 i0 _ 1 8 Try.underlying44 hi'.out hz0 hz1 hz2 rfl (by decide) v1 (0 + k) _ rfl ho1.out _ _ 1 1 [.int .i64 mv] rfl (reads_one hm1.out) (by simp [Value.oneCell']) hx1.out.2.1 hx8.out.2.1 (hb1.out).size ?_
                    intro v2 w2 ho2 hg2 ha2
                    have hb2 := Lib.hid (below_via1 hb1.out hg2 rfl rfl rfl rfl (hb1.out).size (own_base ho1.out))
                    replace ho2 := Lib.hid ho2
                    clear ha2 hg2
                    refine hK.out _ _ trivial (fun _ => ?_)
                    clear hK K
                    try simp only [Act.put, List.setIfInBounds_toArray, List.set_cons_zero, List.set_cons_succ]
                    refine wpAnyH_ready (rs := [11]) (by kernel_rfl) (by simp) ?_
                    refine AllReadyH.cons1 ⟨?_, ?_, fun K hK => ?_⟩ AllReadyH.nil
                    rotate_left
                    · simp only [List.getElem?_toArray, List.getElem?_cons_zero, List.getElem?_cons_succ]; rfl
                    refine step_append_any _ rfl (.tmp 97) (.tmp 100) 44 rfl W.heap.size 3 i0 _ 1 8 Try.underlying44 hi'.out hz0 hz1 hz2 rfl (by decide) v2 (0 + k + 1) _ rfl ho2.out W.heap.size _ (xs.length - k) (c9 - k) _ rfl (R2.out.below hb2.out) ho.out.2 hx1.out.2.2 hx8.out.2.2 hb2.out.size ?_
                    intro v3 w3 ho3 hg3 ha3
                    have hb3 := Lib.hid (below_via1 hb2.out hg3 rfl rfl rfl rfl hb2.out.size (own_base ho2.out))
                    replace ho3 := Lib.hid ho3
                    clear ha3 hg3
                    refine hK.out _ _ trivial (fun _ => ?_)
                    clear hK K
                    try simp only [Act.put, List.setIfInBounds_toArray, List.set_cons_zero, List.set_cons_succ]
                    refine wpAnyH_ready (rs := [12]) (by kernel_rfl) (by simp) ?_
                    refine AllReadyH.cons1 ⟨?_, ?_, fun K hK => ?_⟩ AllReadyH.nil
                    rotate_left
                    · simp only [List.getElem?_toArray, List.getElem?_cons_zero, List.getElem?_cons_succ]; rfl
                    go_simp
                    refine hK.out _ _ trivial (fun _ => ?_)
                    clear hK K
                    try simp only [Act.put, List.setIfInBounds_toArray, List.set_cons_zero, List.set_cons_succ]
                    refine wpAnyH_done (by kernel_rfl) ?_ _
                    have HO4 := Lib.hid (show w3.ownsRow w.heap.size 3 1 v3 ys.length (ys.map (Value.int .i64)) from own_ins HYS.out HW.out.size ho3.out)
                    have HB4 := Lib.hid (HW.out.trans (hb3.out.mono HW.out.size))
                    clear hb1 hb2 hb3 ho1 ho2 ho3 R1 R2 HW HO HB
                    go_wp2
                    go_roundw
                    case rel => exact ⟨i + 1, by go_num, hi1.out, by rw [hY.out]; exact HO4, HB4⟩
                    case measure => simp [intOf]; have := hme.out; omega
                  refine AllReadyH.cons1 ⟨?_, ?_, fun K hK => ?_⟩ AllReadyH.nil
                  rotate_left
                  · simp only [List.getElem?_toArray, List.getElem?_cons_zero, List.getElem?_cons_succ]; rfl
                  go_simp
                  refine hK.out _ _ trivial (fun _ => ?_)
                  clear hK K
                  try simp only [Act.put, List.setIfInBounds_toArray, List.set_cons_zero, List.set_cons_succ]
                  refine wpAnyH_ready (rs := [0]) (by kernel_rfl) (by simp) ?_
                  refine AllReadyH.cons1 ⟨?_, ?_, fun K hK => ?_⟩ AllReadyH.nil
                  rotate_left
                  · simp only [List.getElem?_toArray, List.getElem?_cons_zero, List.getElem?_cons_succ]; rfl
                  go_simp
                  refine hK.out _ _ trivial (fun _ => ?_)
                  clear hK K
                  try simp only [Act.put, List.setIfInBounds_toArray, List.set_cons_zero, List.set_cons_succ]
                  refine wpAnyH_ready (rs := [4]) (by kernel_rfl) (by simp) ?_
                  refine AllReadyH.cons1 ⟨?_, ?_, fun K hK => ?_⟩ AllReadyH.nil
                  rotate_left
                  · simp only [List.getElem?_toArray, List.getElem?_cons_zero, List.getElem?_cons_succ]; rfl
                  refine step_append_any _ rfl (.tmp 90) (.tmp 93) 44 rfl W.heap.size 3 i0 _ 1 8 Try.underlying44 hi'.out hz0 hz1 hz2 rfl (by decide) _ 0 [] rfl (own_empty1 (W.alloc (.cells #[.int .i64 mv] 3)) W.heap.size 3 (W.heap.size + 1) (by omega) (by simp)) W.heap.size _ k c9 _ rfl (R1.out.below (below_alloc (below_alloc (Below.refl W.heap.size W) (.cells #[.int .i64 mv] 3)) (.cells #[] 3))) ho.out.1 hx1.out.1 hx8.out.1 ((below_alloc (below_alloc (Below.refl W.heap.size W) (.cells #[.int .i64 mv] 3)) (.cells #[] 3))).size ?_
                  intro v1 w1 ho1 hg1 ha1
                  rw [List.nil_append] at ho1
                  have hb1 := Lib.hid (below_via1 (below_alloc (below_alloc (Below.refl W.heap.size W) (.cells #[.int .i64 mv] 3)) (.cells #[] 3)) hg1 rfl rfl rfl rfl ((below_alloc (below_alloc (Below.refl W.heap.size W) (.cells #[.int .i64 mv] 3)) (.cells #[] 3))).size (own_base (own_empty1 (W.alloc (.cells #[.int .i64 mv] 3)) W.heap.size 3 (W.heap.size + 1) (by omega) (by simp))))
                  have hm1 := Lib.hid ((hg1.block W.heap.size (by simp; omega) (fun e => by injection e with e; exact absurd e (Nat.ne_of_lt (Nat.lt_succ_self _)))).trans (blk_alloc1 (heap_alloc_new W (.cells #[.int .i64 mv] 3)) _))
                  replace ho1 := Lib.hid ho1
                  clear ha1 hg1
                  refine hK.out _ _ trivial (fun _ => ?_)
                  clear hK K
                  try simp only [Act.put, List.setIfInBounds_toArray, List.set_cons_zero, List.set_cons_succ]
                  refine wpAnyH_ready (rs := [7]) (by kernel_rfl) (by simp) ?_
                  refine AllReadyH.cons1 ⟨?_, ?_, fun K hK => ?_⟩ AllReadyH.nil
                  rotate_left
                  · simp only [List.getElem?_toArray, List.getElem?_cons_zero, List.getElem?_cons_succ]; rfl
                  refine step_append_any _ rfl (.tmp 94) (.tmp 96) 44 rfl W.heap.size 3 i0 _ 1 8 Try.underlying44 hi'.out hz0 hz1 hz2 rfl (by decide) v1 (0 + k) _ rfl ho1.out _ _ 1 1 [.int .i64 mv] rfl (reads_one hm1.out) (by simp [Value.oneCell']) hx1.out.2.1 hx8.out.2.1 (hb1.out).size ?_
                  intro v2 w2 ho2 hg2 ha2
                  have hb2 := Lib.hid (below_via1 hb1.out hg2 rfl rfl rfl rfl (hb1.out).size (own_base ho1.out))
                  replace ho2 := Lib.hid ho2
                  clear ha2 hg2
                  refine hK.out _ _ trivial (fun _ => ?_)
                  clear hK K
                  try simp only [Act.put, List.setIfInBounds_toArray, List.set_cons_zero, List.set_cons_succ]
                  refine wpAnyH_ready (rs := [11]) (by kernel_rfl) (by simp) ?_
                  refine AllReadyH.cons1 ⟨?_, ?_, fun K hK => ?_⟩ AllReadyH.nil
                  rotate_left
                  · simp only [List.getElem?_toArray, List.getElem?_cons_zero, List.getElem?_cons_succ]; rfl
                  refine step_append_any _ rfl (.tmp 97) (.tmp 100) 44 rfl W.heap.size 3 i0 _ 1 8 Try.underlying44 hi'.out hz0 hz1 hz2 rfl (by decide) v2 (0 + k + 1) _ rfl ho2.out W.heap.size _ (xs.length - k) (c9 - k) _ rfl (R2.out.below hb2.out) ho.out.2 hx1.out.2.2 hx8.out.2.2 hb2.out.size ?_
                  intro v3 w3 ho3 hg3 ha3
                  have hb3 := Lib.hid (below_via1 hb2.out hg3 rfl rfl rfl rfl hb2.out.size (own_base ho2.out))
                  replace ho3 := Lib.hid ho3
                  clear ha3 hg3
                  refine hK.out _ _ trivial (fun _ => ?_)
                  clear hK K
                  try simp only [Act.put, List.setIfInBounds_toArray, List.set_cons_zero, List.set_cons_succ]
                  refine wpAnyH_ready (rs := [12]) (by kernel_rfl) (by simp) ?_
                  refine AllReadyH.cons1 ⟨?_, ?_, fun K hK => ?_⟩ AllReadyH.nil
                  rotate_left
                  · simp only [List.getElem?_toArray, List.getElem?_cons_zero, List.getElem?_cons_succ]; rfl
                  go_simp
                  refine hK.out _ _ trivial (fun _ => ?_)
                  clear hK K
                  try simp only [Act.put, List.setIfInBounds_toArray, List.set_cons_zero, List.set_cons_succ]
                  refine wpAnyH_done (by kernel_rfl) ?_ _
                  have HO4 := Lib.hid (show w3.ownsRow w.heap.size 3 1 v3 ys.length (ys.map (Value.int .i64)) from own_ins HYS.out HW.out.size ho3.out)
                  have HB4 := Lib.hid (HW.out.trans (hb3.out.mono HW.out.size))
                  clear hb1 hb2 hb3 ho1 ho2 ho3 R1 R2 HW HO HB
                  go_wp2
                  go_roundw
                  case rel => exact ⟨i + 1, by go_num, hi1.out, by rw [hY.out]; exact HO4, HB4⟩
                  case measure => simp [intOf]; have := hme.out; omega
            · have hke : k = xs.length := by omega
              have q5 : decide ((k : Int) < (xs.length : Int)) = false := decide_eq_false (by omega)
              have q5' : decide (k < xs.length) = false := decide_eq_false hkl
              have q6 : ((k : Int) == (xs.length : Int)) = true := beq_iff_eq.2 (by omega)
              have HYS := Lib.hid (show ys = xs.take k ++ [mv] ++ xs.drop k ∧ k ≤ xs.length from ⟨by
                have HK : insK xs mv = k := insK_eq hkx HI.out (fun h => absurd h hkl)
                rw [HYI.out]
                unfold insI
                rw [HK, List.getElem?_eq_none (by omega), if_neg (by intro e; cases e)], hkx⟩)
              clear HI hke
              go_upto_region 18 with fail
              clear q5 q5' q6 HYI hkl
              have hxl := hle
              have hx1 := Lib.hid (show 0 + k ≤ maxLen ∧ 0 + k + 1 ≤ maxLen ∧ 0 + k + 1 + (xs.length - k) ≤ maxLen by unfold maxLen; omega)
              have hx8 := Lib.hid (show (0 + k) * 8 ≤ 140737488355328 ∧ (0 + k + 1) * 8 ≤ 140737488355328 ∧ (0 + k + 1 + (xs.length - k)) * 8 ≤ 140737488355328 by omega)
              have ho := Lib.hid (show (∀ u ∈ (xs.map (Value.int .i64)).take k, u.oneCell' = true) ∧ (∀ u ∈ (xs.map (Value.int .i64)).drop k, u.oneCell' = true) from ⟨fun u hu => by have := List.mem_of_mem_take hu; simp at this; obtain ⟨_, _, rfl⟩ := this; rfl, fun u hu => by have := List.mem_of_mem_drop hu; simp at this; obtain ⟨_, _, rfl⟩ := this; rfl⟩)
              have e1 : (k : Int) ≤ (xs.length : Int) := by omega
              have e2 : (k : Int) ≤ (c9 : Int) := by omega
              have e3 : (xs.length : Int) ≤ (c9 : Int) := by omega
              clear hxl
              have RW := Lib.hid (Reads.of_own HO.out)
              have R1 := Lib.hid (show Reads wr.drew wr.drew.heap.size 1 _ k ((xs.map (Value.int .i64)).take k) from reads_take1 RW.out hkx)
              have R2 := Lib.hid (show Reads wr.drew wr.drew.heap.size 1 (if c9 = k then A9 else A9.map (·.add k)) (xs.length - k) ((xs.map (Value.int .i64)).drop k) from reads_cut1 RW.out hkx hcap9)
              have HW := Lib.hid (show Below w.heap.size w wr.drew from below_drew HB.out)
              refine wp_region_heldL (S := fun _ => True) #[false, false, false, false, false, false, false, false, false, false, false, false, false] (by kernel_rfl) 13 (by kernel_rfl) (by kernel_rfl) trivial (fun hHeld => ?_)
              clear RW
              generalize wr.drew = W at *
              refine wpAnyH_takeL 1 #[false, true, false, false, false, false, false, false, false, false, false, false, false] (by kernel_rfl) (by kernel_rfl) (by kernel_rfl) (by kernel_rfl) (fun d v c a w h => by cases d <;> exact h) trivial ⟨?_, ?_, ?_, Or.inl ⟨?_, ?_⟩, ?_⟩
              rotate_left
              · simp only [List.getElem?_toArray, List.getElem?_cons_zero, List.getElem?_cons_succ]; rfl
              rotate_left
              · rfl
              · intro w hSw; go_simp; try (with_reducible rfl)
              simp only [Act.put, List.setIfInBounds_toArray, List.set_cons_zero, List.set_cons_succ]
              refine wpAnyH_takeL 2 #[false, true, true, false, false, false, false, false, false, false, false, false, false] (by kernel_rfl) (by kernel_rfl) (by kernel_rfl) (by kernel_rfl) (fun d v c a w h => by cases d <;> exact h) trivial ⟨?_, ?_, ?_, Or.inl ⟨?_, ?_⟩, ?_⟩
              rotate_left
              · simp only [List.getElem?_toArray, List.getElem?_cons_zero, List.getElem?_cons_succ]; rfl
              rotate_left
              · rfl
              · intro w hSw; go_simp; try (with_reducible rfl)
              simp only [Act.put, List.setIfInBounds_toArray, List.set_cons_zero, List.set_cons_succ]
              refine wpAnyH_takeL 3 #[false, true, true, true, false, false, false, false, false, false, false, false, false] (by kernel_rfl) (by kernel_rfl) (by kernel_rfl) (by kernel_rfl) (fun d v c a w h => by cases d <;> exact h) trivial ⟨?_, ?_, ?_, Or.inl ⟨?_, ?_⟩, ?_⟩
              rotate_left
              · simp only [List.getElem?_toArray, List.getElem?_cons_zero, List.getElem?_cons_succ]; rfl
              rotate_left
              · rfl
              · intro w hSw; go_simp; try (with_reducible rfl)
              simp only [Act.put, List.setIfInBounds_toArray, List.set_cons_zero, List.set_cons_succ]
              refine wpAnyH_takeL 5 #[false, true, true, true, false, true, false, false, false, false, false, false, false] (by kernel_rfl) (by kernel_rfl) (by kernel_rfl) (by kernel_rfl) (fun d v c a w h => by cases d <;> exact h) trivial ⟨?_, ?_, ?_, Or.inl ⟨?_, ?_⟩, ?_⟩
              rotate_left
              · simp only [List.getElem?_toArray, List.getElem?_cons_zero, List.getElem?_cons_succ]; rfl
              rotate_left
              · rfl
              · intro w hSw; go_simp; try (with_reducible rfl)
              simp only [Act.put, List.setIfInBounds_toArray, List.set_cons_zero, List.set_cons_succ]
              refine wpAnyH_takeL 8 #[false, true, true, true, false, true, false, false, true, false, false, false, false] (by kernel_rfl) (by kernel_rfl) (by kernel_rfl) (by kernel_rfl) (fun d v c a w h => by cases d <;> exact h) trivial ⟨?_, ?_, ?_, Or.inl ⟨?_, ?_⟩, ?_⟩
              rotate_left
              · simp only [List.getElem?_toArray, List.getElem?_cons_zero, List.getElem?_cons_succ]; rfl
              rotate_left
              · rfl
              · intro w hSw; go_simp; try (with_reducible rfl)
              simp only [Act.put, List.setIfInBounds_toArray, List.set_cons_zero, List.set_cons_succ]
              refine wpAnyH_takeL 9 #[false, true, true, true, false, true, false, false, true, true, false, false, false] (by kernel_rfl) (by kernel_rfl) (by kernel_rfl) (by kernel_rfl) (fun d v c a w h => by cases d <;> exact h) trivial ⟨?_, ?_, ?_, Or.inl ⟨?_, ?_⟩, ?_⟩
              rotate_left
              · simp only [List.getElem?_toArray, List.getElem?_cons_zero, List.getElem?_cons_succ]; rfl
              rotate_left
              · rfl
              · intro w hSw; go_simp; try (with_reducible rfl)
              simp only [Act.put, List.setIfInBounds_toArray, List.set_cons_zero, List.set_cons_succ]
              refine wpAnyH_takeL 10 #[false, true, true, true, false, true, false, false, true, true, true, false, false] (by kernel_rfl) (by kernel_rfl) (by kernel_rfl) (by kernel_rfl) (fun d v c a w h => by cases d <;> exact h) trivial ⟨?_, ?_, ?_, Or.inl ⟨?_, ?_⟩, ?_⟩
              rotate_left
              · simp only [List.getElem?_toArray, List.getElem?_cons_zero, List.getElem?_cons_succ]; rfl
              rotate_left
              · rfl
              · intro w hSw; go_simp; try (with_reducible rfl)
              simp only [Act.put, List.setIfInBounds_toArray, List.set_cons_zero, List.set_cons_succ]
              refine wpAnyH_ready (rs := [0, 6]) (by kernel_rfl) (by simp) ?_
              refine AllReadyH.cons1 ⟨?_, ?_, fun K hK => ?_⟩ ?_
              rotate_left
              · simp only [List.getElem?_toArray, List.getElem?_cons_zero, List.getElem?_cons_succ]; rfl
              · skip
                go_simp
                refine hK.out _ _ trivial (fun _ => ?_)
                clear hK K
                try simp only [Act.put, List.setIfInBounds_toArray, List.set_cons_zero, List.set_cons_succ]
                refine wpAnyH_ready (rs := [4, 6]) (by kernel_rfl) (by simp) ?_
                refine AllReadyH.cons1 ⟨?_, ?_, fun K hK => ?_⟩ ?_
                rotate_left
                · simp only [List.getElem?_toArray, List.getElem?_cons_zero, List.getElem?_cons_succ]; rfl
                · skip
                  refine step_append_any _ rfl (.tmp 90) (.tmp 93) 44 rfl W.heap.size 3 i0 _ 1 8 Try.underlying44 hi'.out hz0 hz1 hz2 rfl (by decide) _ 0 [] rfl (own_empty1 W _ 3 _ (Nat.le_refl _) rfl) W.heap.size _ k c9 _ rfl (R1.out.below (below_alloc (Below.refl W.heap.size W) (.cells #[] 3))) ho.out.1 hx1.out.1 hx8.out.1 ((below_alloc (Below.refl W.heap.size W) (.cells #[] 3))).size ?_
                  intro v1 w1 ho1 hg1 ha1
                  rw [List.nil_append] at ho1
                  have hb1 := Lib.hid (below_via1 (below_alloc (Below.refl W.heap.size W) (.cells #[] 3)) hg1 rfl rfl rfl rfl ((below_alloc (Below.refl W.heap.size W) (.cells #[] 3))).size (own_base (own_empty1 W _ 3 _ (Nat.le_refl _) rfl)))
                  replace ho1 := Lib.hid ho1
                  clear ha1 hg1
                  refine hK.out _ _ trivial (fun _ => ?_)
                  clear hK K
                  try simp only [Act.put, List.setIfInBounds_toArray, List.set_cons_zero, List.set_cons_succ]
                  refine wpAnyH_ready (rs := [6]) (by kernel_rfl) (by simp) ?_
                  refine AllReadyH.cons1 ⟨?_, ?_, fun K hK => ?_⟩ AllReadyH.nil
                  rotate_left
                  · simp only [List.getElem?_toArray, List.getElem?_cons_zero, List.getElem?_cons_succ]; rfl
                  go_simp
                  refine hK.out _ _ trivial (fun _ => ?_)
                  clear hK K
                  try simp only [Act.put, List.setIfInBounds_toArray, List.set_cons_zero, List.set_cons_succ]
                  refine wpAnyH_ready (rs := [7]) (by kernel_rfl) (by simp) ?_
                  refine AllReadyH.cons1 ⟨?_, ?_, fun K hK => ?_⟩ AllReadyH.nil
                  rotate_left
                  · simp only [List.getElem?_toArray, List.getElem?_cons_zero, List.getElem?_cons_succ]; rfl
                  refine step_append_any _ rfl (.tmp 94) (.tmp 96) 44 rfl W.heap.size 3 i0 _ 1 8 Try.underlying44 hi'.out hz0 hz1 hz2 rfl (by decide) v1 (0 + k) _ rfl (World.ownsRow.alloc ho1.out (.cells #[.int .i64 mv] 3)) _ _ 1 1 [.int .i64 mv] rfl (reads_one (heap_alloc_new w1 (.cells #[.int .i64 mv] 3))) (by simp [Value.oneCell']) hx1.out.2.1 hx8.out.2.1 ((below_alloc hb1.out (.cells #[.int .i64 mv] 3))).size ?_
                  intro v2 w2 ho2 hg2 ha2
                  have hb2 := Lib.hid (below_via1 (below_alloc hb1.out (.cells #[.int .i64 mv] 3)) hg2 rfl rfl rfl rfl ((below_alloc hb1.out (.cells #[.int .i64 mv] 3))).size (own_base (World.ownsRow.alloc ho1.out (.cells #[.int .i64 mv] 3))))
                  replace ho2 := Lib.hid ho2
                  clear ha2 hg2
                  refine hK.out _ _ trivial (fun _ => ?_)
                  clear hK K
                  try simp only [Act.put, List.setIfInBounds_toArray, List.set_cons_zero, List.set_cons_succ]
                  refine wpAnyH_ready (rs := [11]) (by kernel_rfl) (by simp) ?_
                  refine AllReadyH.cons1 ⟨?_, ?_, fun K hK => ?_⟩ AllReadyH.nil
                  rotate_left
                  · simp only [List.getElem?_toArray, List.getElem?_cons_zero, List.getElem?_cons_succ]; rfl
                  refine step_append_any _ rfl (.tmp 97) (.tmp 100) 44 rfl W.heap.size 3 i0 _ 1 8 Try.underlying44 hi'.out hz0 hz1 hz2 rfl (by decide) v2 (0 + k + 1) _ rfl ho2.out W.heap.size _ (xs.length - k) (c9 - k) _ rfl (R2.out.below hb2.out) ho.out.2 hx1.out.2.2 hx8.out.2.2 hb2.out.size ?_
                  intro v3 w3 ho3 hg3 ha3
                  have hb3 := Lib.hid (below_via1 hb2.out hg3 rfl rfl rfl rfl hb2.out.size (own_base ho2.out))
                  replace ho3 := Lib.hid ho3
                  clear ha3 hg3
                  refine hK.out _ _ trivial (fun _ => ?_)
                  clear hK K
                  try simp only [Act.put, List.setIfInBounds_toArray, List.set_cons_zero, List.set_cons_succ]
                  refine wpAnyH_ready (rs := [12]) (by kernel_rfl) (by simp) ?_
                  refine AllReadyH.cons1 ⟨?_, ?_, fun K hK => ?_⟩ AllReadyH.nil
                  rotate_left
                  · simp only [List.getElem?_toArray, List.getElem?_cons_zero, List.getElem?_cons_succ]; rfl
                  go_simp
                  refine hK.out _ _ trivial (fun _ => ?_)
                  clear hK K
                  try simp only [Act.put, List.setIfInBounds_toArray, List.set_cons_zero, List.set_cons_succ]
                  refine wpAnyH_done (by kernel_rfl) ?_ _
                  have HO4 := Lib.hid (show w3.ownsRow w.heap.size 3 1 v3 ys.length (ys.map (Value.int .i64)) from own_ins HYS.out HW.out.size ho3.out)
                  have HB4 := Lib.hid (HW.out.trans (hb3.out.mono HW.out.size))
                  clear hb1 hb2 hb3 ho1 ho2 ho3 R1 R2 HW HO HB
                  go_wp2
                  go_roundw
                  case rel => exact ⟨i + 1, by go_num, hi1.out, by rw [hY.out]; exact HO4, HB4⟩
                  case measure => simp [intOf]; have := hme.out; omega
                refine AllReadyH.cons1 ⟨?_, ?_, fun K hK => ?_⟩ AllReadyH.nil
                rotate_left
                · simp only [List.getElem?_toArray, List.getElem?_cons_zero, List.getElem?_cons_succ]; rfl
                go_simp
                refine hK.out _ _ trivial (fun _ => ?_)
                clear hK K
                try simp only [Act.put, List.setIfInBounds_toArray, List.set_cons_zero, List.set_cons_succ]
                refine wpAnyH_ready (rs := [4]) (by kernel_rfl) (by simp) ?_
                refine AllReadyH.cons1 ⟨?_, ?_, fun K hK => ?_⟩ AllReadyH.nil
                rotate_left
                · simp only [List.getElem?_toArray, List.getElem?_cons_zero, List.getElem?_cons_succ]; rfl
                refine step_append_any _ rfl (.tmp 90) (.tmp 93) 44 rfl W.heap.size 3 i0 _ 1 8 Try.underlying44 hi'.out hz0 hz1 hz2 rfl (by decide) _ 0 [] rfl (World.ownsRow.alloc (own_empty1 W _ 3 _ (Nat.le_refl _) rfl) (.cells #[.int .i64 mv] 3)) W.heap.size _ k c9 _ rfl (R1.out.below (below_alloc (below_alloc (Below.refl W.heap.size W) (.cells #[] 3)) (.cells #[.int .i64 mv] 3))) ho.out.1 hx1.out.1 hx8.out.1 ((below_alloc (below_alloc (Below.refl W.heap.size W) (.cells #[] 3)) (.cells #[.int .i64 mv] 3))).size ?_
                intro v1 w1 ho1 hg1 ha1
                rw [List.nil_append] at ho1
                have hb1 := Lib.hid (below_via1 (below_alloc (below_alloc (Below.refl W.heap.size W) (.cells #[] 3)) (.cells #[.int .i64 mv] 3)) hg1 rfl rfl rfl rfl ((below_alloc (below_alloc (Below.refl W.heap.size W) (.cells #[] 3)) (.cells #[.int .i64 mv] 3))).size (own_base (World.ownsRow.alloc (own_empty1 W _ 3 _ (Nat.le_refl _) rfl) (.cells #[.int .i64 mv] 3))))
                have hm0 : ((W.alloc (.cells #[] 3)).alloc (.cells #[.int .i64 mv] 3)).heap[W.heap.size + 1]? = some (.cells #[.int .i64 mv] 3) := by have := heap_alloc_new (W.alloc (.cells #[] 3)) (.cells #[.int .i64 mv] 3); rwa [World.size_alloc] at this
                have hm1 := Lib.hid ((hg1.block (W.heap.size + 1) (by simp) (fun e => by injection e with e; exact absurd e (Nat.succ_ne_self _))).trans hm0)
                clear hm0
                replace ho1 := Lib.hid ho1
                clear ha1 hg1
                refine hK.out _ _ trivial (fun _ => ?_)
                clear hK K
                try simp only [Act.put, List.setIfInBounds_toArray, List.set_cons_zero, List.set_cons_succ]
                refine wpAnyH_ready (rs := [7]) (by kernel_rfl) (by simp) ?_
                refine AllReadyH.cons1 ⟨?_, ?_, fun K hK => ?_⟩ AllReadyH.nil
                rotate_left
                · simp only [List.getElem?_toArray, List.getElem?_cons_zero, List.getElem?_cons_succ]; rfl
                refine step_append_any _ rfl (.tmp 94) (.tmp 96) 44 rfl W.heap.size 3 i0 _ 1 8 Try.underlying44 hi'.out hz0 hz1 hz2 rfl (by decide) v1 (0 + k) _ rfl ho1.out _ _ 1 1 [.int .i64 mv] rfl (reads_one hm1.out) (by simp [Value.oneCell']) hx1.out.2.1 hx8.out.2.1 (hb1.out).size ?_
                intro v2 w2 ho2 hg2 ha2
                have hb2 := Lib.hid (below_via1 hb1.out hg2 rfl rfl rfl rfl (hb1.out).size (own_base ho1.out))
                replace ho2 := Lib.hid ho2
                clear ha2 hg2
                refine hK.out _ _ trivial (fun _ => ?_)
                clear hK K
                try simp only [Act.put, List.setIfInBounds_toArray, List.set_cons_zero, List.set_cons_succ]
                refine wpAnyH_ready (rs := [11]) (by kernel_rfl) (by simp) ?_
                refine AllReadyH.cons1 ⟨?_, ?_, fun K hK => ?_⟩ AllReadyH.nil
                rotate_left
                · simp only [List.getElem?_toArray, List.getElem?_cons_zero, List.getElem?_cons_succ]; rfl
                refine step_append_any _ rfl (.tmp 97) (.tmp 100) 44 rfl W.heap.size 3 i0 _ 1 8 Try.underlying44 hi'.out hz0 hz1 hz2 rfl (by decide) v2 (0 + k + 1) _ rfl ho2.out W.heap.size _ (xs.length - k) (c9 - k) _ rfl (R2.out.below hb2.out) ho.out.2 hx1.out.2.2 hx8.out.2.2 hb2.out.size ?_
                intro v3 w3 ho3 hg3 ha3
                have hb3 := Lib.hid (below_via1 hb2.out hg3 rfl rfl rfl rfl hb2.out.size (own_base ho2.out))
                replace ho3 := Lib.hid ho3
                clear ha3 hg3
                refine hK.out _ _ trivial (fun _ => ?_)
                clear hK K
                try simp only [Act.put, List.setIfInBounds_toArray, List.set_cons_zero, List.set_cons_succ]
                refine wpAnyH_ready (rs := [12]) (by kernel_rfl) (by simp) ?_
                refine AllReadyH.cons1 ⟨?_, ?_, fun K hK => ?_⟩ AllReadyH.nil
                rotate_left
                · simp only [List.getElem?_toArray, List.getElem?_cons_zero, List.getElem?_cons_succ]; rfl
                go_simp
                refine hK.out _ _ trivial (fun _ => ?_)
                clear hK K
                try simp only [Act.put, List.setIfInBounds_toArray, List.set_cons_zero, List.set_cons_succ]
                refine wpAnyH_done (by kernel_rfl) ?_ _
                have HO4 := Lib.hid (show w3.ownsRow w.heap.size 3 1 v3 ys.length (ys.map (Value.int .i64)) from own_ins HYS.out HW.out.size ho3.out)
                have HB4 := Lib.hid (HW.out.trans (hb3.out.mono HW.out.size))
                clear hb1 hb2 hb3 ho1 ho2 ho3 R1 R2 HW HO HB
                go_wp2
                go_roundw
                case rel => exact ⟨i + 1, by go_num, hi1.out, by rw [hY.out]; exact HO4, HB4⟩
                case measure => simp [intOf]; have := hme.out; omega
              refine AllReadyH.cons1 ⟨?_, ?_, fun K hK => ?_⟩ AllReadyH.nil
              rotate_left
              · simp only [List.getElem?_toArray, List.getElem?_cons_zero, List.getElem?_cons_succ]; rfl
              go_simp
              refine hK.out _ _ trivial (fun _ => ?_)
              clear hK K
              try simp only [Act.put, List.setIfInBounds_toArray, List.set_cons_zero, List.set_cons_succ]
              refine wpAnyH_ready (rs := [0]) (by kernel_rfl) (by simp) ?_
              refine AllReadyH.cons1 ⟨?_, ?_, fun K hK => ?_⟩ AllReadyH.nil
              rotate_left
              · simp only [List.getElem?_toArray, List.getElem?_cons_zero, List.getElem?_cons_succ]; rfl
              go_simp
              refine hK.out _ _ trivial (fun _ => ?_)
              clear hK K
              try simp only [Act.put, List.setIfInBounds_toArray, List.set_cons_zero, List.set_cons_succ]
              refine wpAnyH_ready (rs := [4]) (by kernel_rfl) (by simp) ?_
              refine AllReadyH.cons1 ⟨?_, ?_, fun K hK => ?_⟩ AllReadyH.nil
              rotate_left
              · simp only [List.getElem?_toArray, List.getElem?_cons_zero, List.getElem?_cons_succ]; rfl
              refine step_append_any _ rfl (.tmp 90) (.tmp 93) 44 rfl W.heap.size 3 i0 _ 1 8 Try.underlying44 hi'.out hz0 hz1 hz2 rfl (by decide) _ 0 [] rfl (own_empty1 (W.alloc (.cells #[.int .i64 mv] 3)) W.heap.size 3 (W.heap.size + 1) (by omega) (by simp)) W.heap.size _ k c9 _ rfl (R1.out.below (below_alloc (below_alloc (Below.refl W.heap.size W) (.cells #[.int .i64 mv] 3)) (.cells #[] 3))) ho.out.1 hx1.out.1 hx8.out.1 ((below_alloc (below_alloc (Below.refl W.heap.size W) (.cells #[.int .i64 mv] 3)) (.cells #[] 3))).size ?_
              intro v1 w1 ho1 hg1 ha1
              rw [List.nil_append] at ho1
              have hb1 := Lib.hid (below_via1 (below_alloc (below_alloc (Below.refl W.heap.size W) (.cells #[.int .i64 mv] 3)) (.cells #[] 3)) hg1 rfl rfl rfl rfl ((below_alloc (below_alloc (Below.refl W.heap.size W) (.cells #[.int .i64 mv] 3)) (.cells #[] 3))).size (own_base (own_empty1 (W.alloc (.cells #[.int .i64 mv] 3)) W.heap.size 3 (W.heap.size + 1) (by omega) (by simp))))
              have hm1 := Lib.hid ((hg1.block W.heap.size (by simp; omega) (fun e => by injection e with e; exact absurd e (Nat.ne_of_lt (Nat.lt_succ_self _)))).trans (blk_alloc1 (heap_alloc_new W (.cells #[.int .i64 mv] 3)) _))
              replace ho1 := Lib.hid ho1
              clear ha1 hg1
              refine hK.out _ _ trivial (fun _ => ?_)
              clear hK K
              try simp only [Act.put, List.setIfInBounds_toArray, List.set_cons_zero, List.set_cons_succ]
              refine wpAnyH_ready (rs := [7]) (by kernel_rfl) (by simp) ?_
              refine AllReadyH.cons1 ⟨?_, ?_, fun K hK => ?_⟩ AllReadyH.nil
              rotate_left
              · simp only [List.getElem?_toArray, List.getElem?_cons_zero, List.getElem?_cons_succ]; rfl
              refine step_append_any _ rfl (.tmp 94) (.tmp 96) 44 rfl W.heap.size 3 i0 _ 1 8 Try.underlying44 hi'.out hz0 hz1 hz2 rfl (by decide) v1 (0 + k) _ rfl ho1.out _ _ 1 1 [.int .i64 mv] rfl (reads_one hm1.out) (by simp [Value.oneCell']) hx1.out.2.1 hx8.out.2.1 (hb1.out).size ?_
              intro v2 w2 ho2 hg2 ha2
              have hb2 := Lib.hid (below_via1 hb1.out hg2 rfl rfl rfl rfl (hb1.out).size (own_base ho1.out))
              replace ho2 := Lib.hid ho2
              clear ha2 hg2
              refine hK.out _ _ trivial (fun _ => ?_)
              clear hK K
              try simp only [Act.put, List.setIfInBounds_toArray, List.set_cons_zero, List.set_cons_succ]
              refine wpAnyH_ready (rs := [11]) (by kernel_rfl) (by simp) ?_
              refine AllReadyH.cons1 ⟨?_, ?_, fun K hK => ?_⟩ AllReadyH.nil
              rotate_left
              · simp only [List.getElem?_toArray, List.getElem?_cons_zero, List.getElem?_cons_succ]; rfl
              refine step_append_any _ rfl (.tmp 97) (.tmp 100) 44 rfl W.heap.size 3 i0 _ 1 8 Try.underlying44 hi'.out hz0 hz1 hz2 rfl (by decide) v2 (0 + k + 1) _ rfl ho2.out W.heap.size _ (xs.length - k) (c9 - k) _ rfl (R2.out.below hb2.out) ho.out.2 hx1.out.2.2 hx8.out.2.2 hb2.out.size ?_
              intro v3 w3 ho3 hg3 ha3
              have hb3 := Lib.hid (below_via1 hb2.out hg3 rfl rfl rfl rfl hb2.out.size (own_base ho2.out))
              replace ho3 := Lib.hid ho3
              clear ha3 hg3
              refine hK.out _ _ trivial (fun _ => ?_)
              clear hK K
              try simp only [Act.put, List.setIfInBounds_toArray, List.set_cons_zero, List.set_cons_succ]
              refine wpAnyH_ready (rs := [12]) (by kernel_rfl) (by simp) ?_
              refine AllReadyH.cons1 ⟨?_, ?_, fun K hK => ?_⟩ AllReadyH.nil
              rotate_left
              · simp only [List.getElem?_toArray, List.getElem?_cons_zero, List.getElem?_cons_succ]; rfl
              go_simp
              refine hK.out _ _ trivial (fun _ => ?_)
              clear hK K
              try simp only [Act.put, List.setIfInBounds_toArray, List.set_cons_zero, List.set_cons_succ]
              refine wpAnyH_done (by kernel_rfl) ?_ _
              have HO4 := Lib.hid (show w3.ownsRow w.heap.size 3 1 v3 ys.length (ys.map (Value.int .i64)) from own_ins HYS.out HW.out.size ho3.out)
              have HB4 := Lib.hid (HW.out.trans (hb3.out.mono HW.out.size))
              clear hb1 hb2 hb3 ho1 ho2 ho3 R1 R2 HW HO HB
              go_wp2
              go_roundw
              case rel => exact ⟨i + 1, by go_num, hi1.out, by rw [hY.out]; exact HO4, HB4⟩
              case measure => simp [intOf]; have := hme.out; omega
    · obtain rfl : i = R.length := by omega
      rw [List.take_length, EN.out] at HO
      go_wp2
      go_ret
      exact ⟨_, rfl, HO.out, HB.out⟩
end Go.Proofs.Ytonlbeonblpblaa.All
