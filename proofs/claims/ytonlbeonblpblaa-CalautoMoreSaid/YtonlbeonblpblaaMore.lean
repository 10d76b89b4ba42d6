/-
  The law CalautoMore tells true of every input. No condition.
-/
import Derived.Test.YtonlbeonblpblaaMoreA
import Derived.Test.YtonlbeonblpblaaMoreP
import Derived.Test.YtonlbeonblpblaaHeldZ
namespace Go.Proofs.Ytonlbeonblpblaa.All
open Go.RowKit Go.Proofs.YtonlbeonblpblaaW.PrintWords Go.Proofs.YtonlbeonblpblaaW.PrintLast Go.Proofs.YtonlbeonblpblaaW.PrintMore Go.Proofs.Ytonlbeonblpblaa.Wd
set_option linter.unusedVariables false
set_option linter.unusedSimpArgs false
private theorem ym (motive : Option Value → Sort _) (h1 : (b : Bool) → motive (some (.bool b))) (h2 : (x : Option Value) → motive x) : Go.yielded.match_1 motive (some undef) h1 h2 = h2 (some undef) := rfl
attribute [local go_sem, local simp] ym
set_option maxRecDepth 100000 in
set_option maxHeartbeats 40000000 in
theorem more_in (A0 P : Option Addr) (c0 cs : Nat) (R : List Ru) (r : Ru) (L : List Int) (num : Int) (w : World) (hR : RuRow w w.heap.size A0 R) (hr : rightL R = true) (hrr : rightB r = true) (hS : Reads w w.heap.size 1 P L.length (L.map (Value.int .u8))) (hs : Steps L) (h30 : L.length ≤ 30) (h15 : R.length ≤ 15) :
    Calls Try.prog 3 #[.slice A0 R.length c0, .agg #[.int .i64 r.k, .int .i64 r.l, .int .i64 r.f], .slice P L.length cs, .int .u64 num] w fun e w' => e = .returned (.bool true) ∧ Below w.heap.size w w' := by
  have rt : Rt R := ⟨(rightL_parts hr).1, (rightL_parts hr).2⟩
  have hl : R.length ≤ maxLen := Nat.le_trans rt.len (by decide)
  have hv := Lib.hid (rightV_yes hr)
  have hrb := Lib.hid hrr
  have q0 : decide ((30 : Int) < (L.length : Int)) = false := decide_eq_false (by omega)
  have q2 : decide ((15 : Int) < (R.length : Int)) = false := decide_eq_false (by omega)
  have g := mkM_good hs (Nat.le_refl _) h30
  have rt2 : Rt (R ++ [r]) := ⟨by rw [List.length_append]; simp; omega, fun x hx => by
    rcases List.mem_append.1 hx with h | h
    · exact rt.r x h
    · obtain rfl : x = r := by simpa using h
      exact hrr⟩
  have RT := Lib.hid rt
  have RT2 := Lib.hid rt2
  have G := Lib.hid g
  replace hR := Lib.hid hR
  replace hS := Lib.hid hS
  replace hs := Lib.hid hs
  clear hr rt rt2 g hrr
  obtain ⟨ir, hir, zr0, zr1, zr2⟩ := info_parts rule_info
  replace hir := Lib.hid hir
  have hx0 := Lib.hid (show (0 + R.length ≤ maxLen ∧ (0 + R.length) * 24 ≤ 140737488355328) ∧ (R.length + 1 ≤ maxLen ∧ (R.length + 1) * 24 ≤ 140737488355328) by unfold maxLen; omega)
  have hb0 := Lib.hid (below_alloc (Below.refl w.heap.size w) (.cells #[.int .i64 r.k, .int .i64 r.l, .int .i64 r.f] 24))
  have bx0 : Hid (Bo (w.alloc (.cells #[.int .i64 r.k, .int .i64 r.l, .int .i64 r.f] 24)) w.heap.size r) := Lib.hid (heap_alloc_new w _)
  go_enter Try.func3, Try.ntmps3
  go_upto_region 5 with (first
      | (go_at_call 11; refine (awake_calls _).mono ?_; rintro e w1 ⟨rfl, hb1⟩; have bx1 := Lib.hid (bo_below bx0.out hb1); have hcb := bx1.out.cells; replace hb1 := Lib.hid (hb0.out.trans (hb1.mono hb0.out.size)))
      | (go_at_call 12; refine (right16_calls (hR.out.up hb1.out) hl).mono ?_; rintro e w2 ⟨rfl, hb2⟩; rw [hv.out]; have bx2 := Lib.hid (bo_below bx1.out hb2); have hcb2 := bx2.out.cells; replace hb2 := Lib.hid (hb1.out.trans (hb2.mono hb1.out.size)))
      | (go_at_call 13; refine (right_calls r _).mono ?_; rintro e w3 ⟨rfl, hb3⟩; rw [hrb.out]; have bx3 := Lib.hid (bo_below bx2.out hb3); have hcb3 := bx3.out.cells; replace hb3 := Lib.hid (hb2.out.trans (hb3.mono hb2.out.size))))
  clear hb1 hb2 bx1 bx2 hcb hcb2 bx0 hb0
  go_upto_region 6 with (go_at_call 14; refine (comp_lw hR.out RT.out hb3.out).mono ?_; rintro e w4 ⟨A, c, ks, rfl, hk4, hm4, hb4⟩; replace hb4 := Lib.hid hb4; replace hk4 := Lib.hid hk4; replace hm4 := Lib.hid hm4)
  have X4 := Lib.hid (below_alloc (Below.refl w4.heap.size w4) (.cells #[.slice A ks.length c, .int .i64 (neverF R).1, .bool (neverF R).2] 32))
  have hb45 := Lib.hid (hb4.out.trans (X4.out.mono hb4.out.size))
  have hbw5 := Lib.hid (hb3.out.trans (hb45.out.mono hb3.out.size))
  have bx5 := Lib.hid (bo_below bx3.out hb45.out)
  generalize hW5 : w4.alloc (.cells #[.slice A ks.length c, .int .i64 (neverF R).1, .bool (neverF R).2] 32) = W5 at *
  obtain ⟨p0, hp0⟩ : ∃ p0, w.heap.size = p0 := ⟨_, rfl⟩
  have KS := Lib.hid (show ∀ w', Below W5.heap.size W5 w' → (w'.cell? { block := w.heap.size, off := 0 } = some (.int .i64 r.k) ∧ w'.cell? { block := w.heap.size, off := 1 } = some (.int .i64 r.l) ∧ w'.cell? { block := w.heap.size, off := 2 } = some (.int .i64 r.f)) ∧ Below W5.heap.size W5 w' from fun w' h => ⟨(bo_below bx5.out h).cells, h⟩)
  have RD := Lib.hid (show ∀ w', Below W5.heap.size W5 w' → Reads w' w'.heap.size 3 A0 R.length (rucs R) from fun w' h => ru_reads (hR.out.up (hbw5.out.trans (h.mono hbw5.out.size))))
  have hS5 := KS.out W5.drew (below_drew (Below.refl _ _))
  have hz5 := hbw5.out.size
  clear hcb3 hp0
  have C2 : Hid (∀ W A2 c2, W.ownsRow W5.heap.size 24 3 (.slice A2 (R.length + 1) c2) (R.length + 1) (rucs R ++ ruc r) → Calls Try.prog 14 #[.slice A2 (R.length + 1) c2] W (CompPost (R ++ [r]) W)) := Lib.hid (fun W A2 c2 h => by
    have hlen : (R ++ [r]).length = R.length + 1 := by simp
    have hru : RuRow W W.heap.size A2 (R ++ [r]) := own_ru (c := c2) (base := W5.heap.size) (by rw [hlen, rucs_app]; exact h)
    have := compile_ok (c0 := c2) hru RT2.out.len RT2.out.r
    rw [hlen] at this
    exact this)
  clear hv bx3 q0 q2 hl
  replace hS5 := Lib.hid hS5
  refine wp_region_noPanic ?_
  refine wp_region_heldL (S := fun w' => (w'.cell? { block := w.heap.size, off := 0 } = some (.int .i64 r.k) ∧ w'.cell? { block := w.heap.size, off := 1 } = some (.int .i64 r.l) ∧ w'.cell? { block := w.heap.size, off := 2 } = some (.int .i64 r.f)) ∧ Below W5.heap.size W5 w') #[false, false, false, false, false, false, false, false, false, false, false, false, false] (by kernel_rfl) 13 (by kernel_rfl) (by kernel_rfl) hS5.out (fun hHeld => ?_)
  refine wpAnyH_takeL 1 #[false, true, false, false, false, false, false, false, false, false, false, false, false] (by kernel_rfl) (by kernel_rfl) (by kernel_rfl) (by kernel_rfl) (fun d v c a w h => h) (by assumption) ⟨?_, ?_, ?_, Or.inl ⟨?_, ?_⟩, ?_⟩
  rotate_left
  · simp only [List.getElem?_toArray, List.getElem?_cons_zero, List.getElem?_cons_succ]; rfl
  rotate_left
  · rfl
  · intro w hSw; (try dsimp only at hSw); go_simp; try (with_reducible rfl)
  simp only [Act.put, List.setIfInBounds_toArray, List.set_cons_zero, List.set_cons_succ]
  refine wpAnyH_takeL 3 #[false, true, false, true, false, false, false, false, false, false, false, false, false] (by kernel_rfl) (by kernel_rfl) (by kernel_rfl) (by kernel_rfl) (fun d v c a w h => h) (by assumption) ⟨?_, ?_, ?_, Or.inl ⟨?_, ?_⟩, ?_⟩
  rotate_left
  · simp only [List.getElem?_toArray, List.getElem?_cons_zero, List.getElem?_cons_succ]; rfl
  rotate_left
  · rfl
  · intro w hSw; (try dsimp only at hSw); go_simp; try (with_reducible rfl)
  simp only [Act.put, List.setIfInBounds_toArray, List.set_cons_zero, List.set_cons_succ]
  refine wpAnyH_ready (rs := [0, 4, 10]) (by kernel_rfl) (by simp) ?_
  refine AllReadyH.cons1 ⟨?_, ?_, fun K hK => ?_⟩ ?_
  rotate_left
  · simp only [List.getElem?_toArray, List.getElem?_cons_zero, List.getElem?_cons_succ]; rfl
  · rw [if_pos (by rfl)]
    go_simp
    refine hK.out _ _ (KS.out _ (below_alloc hHeld.2 (.cells #[] 24))) (fun hHeld => ?_)
    clear hK K
    try simp only [Act.put, List.setIfInBounds_toArray, List.set_cons_zero, List.set_cons_succ]
    as_aux_lemma =>
      refine wpAnyH_ready (rs := [2, 4, 10]) (by kernel_rfl) (by simp) ?_
      refine AllReadyH.cons1 ⟨?_, ?_, fun K hK => ?_⟩ ?_
      rotate_left
      · simp only [List.getElem?_toArray, List.getElem?_cons_zero, List.getElem?_cons_succ]; rfl
      · have hbl := hHeld.2
        have hga := (heap_alloc_new W5 (.cells #[] 24))
        refine step_append_any _ rfl (.tmp 45) (.tmp 46) 22 rfl W5.heap.size 24 ir _ 3 24 Try.underlying22 hir.out zr0 zr1 zr2 rfl (by decide) (.slice (some ⟨W5.heap.size, 0, none⟩) 0 0) 0 [] rfl (own_e hga (by omega)) _ A0 R.length c0 (rucs R) rfl (RD.out _ hbl) (rucs_one R) hx0.out.1.1 hx0.out.1.2 hbl.size ?_
        intro v1 w6 ho1 hg1 ha1
        rw [Nat.zero_add, List.nil_append] at ho1
        obtain ⟨A1, c1, rfl, hcap1⟩ := own_slice_cap ho1
        have hb6 := hbl.grown hg1 hbl.size (fun k e => by simp [Value.ownBlock] at e; omega)
        have hz6 := hb6.size
        refine hK.out _ _ (KS.out _ hb6) (fun hHeld => ?_)
        clear hK K
        try simp only [Act.put, List.setIfInBounds_toArray, List.set_cons_zero, List.set_cons_succ]
        as_aux_lemma =>
          refine wpAnyH_ready (rs := [4, 10]) (by kernel_rfl) (by simp) ?_
          refine AllReadyH.cons1 ⟨?_, ?_, fun K hK => ?_⟩ ?_
          rotate_left
          · simp only [List.getElem?_toArray, List.getElem?_cons_zero, List.getElem?_cons_succ]; rfl
          · rw [if_pos (by rfl)]
            go_simp
            refine hK.out _ _ (KS.out _ (below_alloc hHeld.2 (.cells #[.int .i64 r.k, .int .i64 r.l, .int .i64 r.f] 24))) (fun hHeld => ?_)
            clear hK K
            try simp only [Act.put, List.setIfInBounds_toArray, List.set_cons_zero, List.set_cons_succ]
            as_aux_lemma =>
              refine wpAnyH_ready (rs := [5, 10]) (by kernel_rfl) (by simp) ?_
              refine AllReadyH.cons1 ⟨?_, ?_, fun K hK => ?_⟩ ?_
              rotate_left
              · simp only [List.getElem?_toArray, List.getElem?_cons_zero, List.getElem?_cons_succ]; rfl
              · have hbl := hHeld.2
                refine step_append_any _ rfl (.tmp 47) (.tmp 49) 22 rfl W5.heap.size 24 ir _ 3 24 Try.underlying22 hir.out zr0 zr1 zr2 rfl (by decide) (.slice A1 R.length c1) R.length (rucs R) rfl (World.ownsRow.alloc ho1 (.cells #[.int .i64 r.k, .int .i64 r.l, .int .i64 r.f] 24)) _ _ 1 1 (ruc r) rfl (reads3 (heap_alloc_new w6 (.cells #[.int .i64 r.k, .int .i64 r.l, .int .i64 r.f] 24))) (by unfold ruc; simp [Value.oneCell']) hx0.out.2.1 hx0.out.2.2 hbl.size ?_
                intro v2 w7 ho2 hg2 ha2
                obtain ⟨A2, c2, rfl, hcap2⟩ := own_slice_cap ho2
                have hb7 := hbl.grown hg2 hbl.size (own_base ho1)
                have hz7 := hb7.size
                refine hK.out _ _ (KS.out _ hb7) (fun hHeld => ?_)
                clear hK K
                try simp only [Act.put, List.setIfInBounds_toArray, List.set_cons_zero, List.set_cons_succ]
                as_aux_lemma =>
                  refine wpAnyH_ready (rs := [6, 10]) (by kernel_rfl) (by simp) ?_
                  refine AllReadyH.cons1 ⟨?_, ?_, fun K hK => ?_⟩ ?_
                  rotate_left
                  · simp only [List.getElem?_toArray, List.getElem?_cons_zero, List.getElem?_cons_succ]; rfl
                  · rw [if_pos (by rfl)]
                    go_simp
                    go_at_call 14; (with_reducible refine (C2.out _ _ _ ho2).mono ?_); rintro e w8 ⟨A3, c3, ks3, rfl, hk8, hm8, hb8⟩
                    have hsz8 := Nat.le_trans hHeld.2.size hb8.size
                    refine hK.out _ _ (KS.out _ (hHeld.2.trans (hb8.mono hHeld.2.size))) (fun hHeld => ?_)
                    clear hK K
                    try simp only [Act.put, List.setIfInBounds_toArray, List.set_cons_zero, List.set_cons_succ]
                    refine wpAnyH_takeL 7 #[true, true, true, true, true, true, true, true, false, false, false, false, false] (by kernel_rfl) (by kernel_rfl) (by kernel_rfl) (by kernel_rfl) (fun d v c a w h => h) (by assumption) ⟨?_, ?_, ?_, Or.inl ⟨?_, ?_⟩, ?_⟩
                    rotate_left
                    · simp only [List.getElem?_toArray, List.getElem?_cons_zero, List.getElem?_cons_succ]; rfl
                    rotate_left
                    · rfl
                    · intro w hSw; (try dsimp only at hSw); go_simp; try (with_reducible rfl)
                    simp only [Act.put, List.setIfInBounds_toArray, List.set_cons_zero, List.set_cons_succ]
                    refine wpAnyH_takeL 8 #[true, true, true, true, true, true, true, true, true, false, false, false, false] (by kernel_rfl) (by kernel_rfl) (by kernel_rfl) (by kernel_rfl) (fun d v c a w h => h) (by assumption) ⟨?_, ?_, ?_, Or.inl ⟨?_, ?_⟩, ?_⟩
                    rotate_left
                    · simp only [List.getElem?_toArray, List.getElem?_cons_zero, List.getElem?_cons_succ]; rfl
                    rotate_left
                    · rfl
                    · intro w hSw; (try dsimp only at hSw); go_simp; try (with_reducible rfl)
                    simp only [Act.put, List.setIfInBounds_toArray, List.set_cons_zero, List.set_cons_succ]
                    refine wpAnyH_takeL 9 #[true, true, true, true, true, true, true, true, true, true, false, false, false] (by kernel_rfl) (by kernel_rfl) (by kernel_rfl) (by kernel_rfl) (fun d v c a w h => h) (by assumption) ⟨?_, ?_, ?_, Or.inl ⟨?_, ?_⟩, ?_⟩
                    rotate_left
                    · simp only [List.getElem?_toArray, List.getElem?_cons_zero, List.getElem?_cons_succ]; rfl
                    rotate_left
                    · rfl
                    · intro w hSw; (try dsimp only at hSw); go_simp; try (with_reducible rfl)
                    simp only [Act.put, List.setIfInBounds_toArray, List.set_cons_zero, List.set_cons_succ]
                    as_aux_lemma =>
                      refine wpAnyH_ready (rs := [10]) (by kernel_rfl) (by simp) ?_
                      refine AllReadyH.cons1 ⟨?_, ?_, fun K hK => ?_⟩ ?_
                      rotate_left
                      · simp only [List.getElem?_toArray, List.getElem?_cons_zero, List.getElem?_cons_succ]; rfl
                      · rw [if_pos (by rfl)]
                        go_simp
                        refine hK.out _ _ (KS.out _ (below_alloc hHeld.2 (.cells #[.slice none 0 0, .int .i64 0, .bool false] 32))) (fun hHeld => ?_)
                        clear hK K
                        try simp only [Act.put, List.setIfInBounds_toArray, List.set_cons_zero, List.set_cons_succ]
                        as_aux_lemma =>
                          have hbl8 := hHeld.2
                          refine wpAnyH_oneL 11 #[true, true, true, true, true, true, true, true, true, true, true, true, false] (by kernel_rfl) (by kernel_rfl) ⟨?_, ?_, fun K hK => ?_⟩
                          rotate_left
                          · simp only [List.getElem?_toArray, List.getElem?_cons_zero, List.getElem?_cons_succ]; rfl
                          rw [if_pos (by rfl)]
                          go_simp
                          have hk9 := hk8.below (below_alloc (Below.refl _ w8) (.cells #[.slice A3 ks3.length c3, .int .i64 (neverF (R ++ [r])).1, .bool (neverF (R ++ [r])).2] 32))
                          have hx9 := heap_alloc_new w8 (.cells #[.slice A3 ks3.length c3, .int .i64 (neverF (R ++ [r])).1, .bool (neverF (R ++ [r])).2] 32)
                          have hbl9 : Below W5.heap.size W5 (w8.alloc (.cells #[.slice A3 ks3.length c3, .int .i64 (neverF (R ++ [r])).1, .bool (neverF (R ++ [r])).2] 32)) := below_alloc (un_alloc hbl8 hsz8) _
                          refine hK.out _ _ (KS.out _ hbl9) (fun hHeld => ?_)
                          generalize w8.alloc (.cells #[.slice A3 ks3.length c3, .int .i64 (neverF (R ++ [r])).1, .bool (neverF (R ++ [r])).2] 32) = W9 at *
                          generalize w8.heap.size = q2 at *
                          clear hK K
                          try simp only [Act.put, List.setIfInBounds_toArray, List.set_cons_zero, List.set_cons_succ]
                          refine wpAnyH_takeL 12 #[true, true, true, true, true, true, true, true, true, true, true, true, true] (by kernel_rfl) (by kernel_rfl) (by kernel_rfl) (by kernel_rfl) (fun d v c a w h => h) (by assumption) ⟨?_, ?_, ?_, Or.inl ⟨?_, ?_⟩, ?_⟩
                          rotate_left
                          · simp only [List.getElem?_toArray, List.getElem?_cons_zero, List.getElem?_cons_succ]; rfl
                          rotate_left
                          · rfl
                          · intro w hSw; (try dsimp only at hSw); go_simp; try (with_reducible rfl)
                          simp only [Act.put, List.setIfInBounds_toArray, List.set_cons_zero, List.set_cons_succ]
                          refine wpAnyH_done (by kernel_rfl) (NoPanic.normal ?_) _
                          as_aux_lemma =>
                            have hbw9 := Lib.hid (hbw5.out.trans (hbl9.mono hbw5.out.size))
                            have HKB := Lib.hid hk9
                            have HX9 := Lib.hid hx9
                            have HM8 := Lib.hid hm8
                            have HBL := Lib.hid hbl9
                            clear hk9 hx9 hm8 hbl9
                            go_upto_region 8 with (go_at_call 15; (with_reducible refine (made_calls (B := w.heap.size) (hS.out.below hbw9.out) hbw9.out.size hs.out h30).mono ?_); rintro e w10 ⟨b, gx, rfl, ⟨base, A4, c4, hl1, hl2, hl3, ht4⟩, hx4, hb10⟩; have hl1' := Nat.le_trans HBL.out.size hl1; have hl2' := Nat.le_trans HBL.out.size hl2; have hbb := HBL.out.trans (hb10.mono HBL.out.size); have BX := Lib.hid (bo_below bx5.out hbb); rw [← hW5] at hl1' hl2' hbb; have H1 := Lib.hid (lw_mk RT.out hb3.out hk4.out hm4.out hb4.out hl1' hl2' hl3 ⟨_, _, ht4⟩ hbb); have H2 := Lib.hid (lw_mk2 RT2.out HKB.out HM8.out HX9.out hbw9.out hl1 hl2 hl3 ⟨_, _, ht4⟩ hb10); clear hl1 hl2 hl3 ht4 hx4 hb10 hl1' hl2' hbb)
                            generalize mkM L L.length = M at *
                            have MH : MoreH w w10 R r M base b num w3.heap.size w4.heap.size A c ks _ q2 A3 c3 ks3 := ⟨H1.out, H2.out, BX.out, G.out, fun h => more_ge RT2.out h G.out num, fun h => more_never RT.out hrb.out h G.out num, minM_rng G.out num, rightB_f hrb.out⟩
                            clear HKB HX9 HM8 HBL hbw9 H1 H2 BX bx5 hb45 hbw5 KS RD C2 hz5 hS5 hW5 X4 RT RT2 hb3 hb4 hk4 hm4 hR hS hs hrb
                            generalize w4.heap.size = q1 at *
                            have T1 := Lib.hid MH.t1
                            have T2 := Lib.hid MH.t2
                            have MN := Lib.hid MH.mn
                            have hnv := MH.nv
                            have hgm := MH.ge
                            have hwr := MH.wr
                            have hrf := MH.rf
                            have hc10 := MH.cells
                            replace MH := Lib.hid MH
                            generalize tl R M num = x at *
                            generalize tl (R ++ [r]) M num = y at *
                            go_region_held3 (fun w' => (w'.cell? { block := q1, off := 0 } = some (.slice A ks.length c) ∧ w'.cell? { block := q1, off := 1 } = some (.int .i64 (neverF R).1) ∧ w'.cell? { block := q1, off := 2 } = some (.bool (neverF R).2)) ∧ w'.cell? { block := q2, off := 0 } = some (.slice A3 ks3.length c3) ∧ w'.cell? { block := q2, off := 1 } = some (.int .i64 (neverF (R ++ [r])).1) ∧ w'.cell? { block := q2, off := 2 } = some (.bool (neverF (R ++ [r])).2)) (first | exact hc10 | exact hc11 | exact hc12)
                              ((first
                                | (go_at_call 16
                                   (with_reducible refine (T1.out _ (MH.out.below (below_drew (Below.refl _ _)))).mono ?_)
                                   rintro e w11 ⟨rfl, hb11⟩
                                   have MH1 := Lib.hid (MH.out.below ((below_drew (Below.refl _ _)).trans hb11))
                                   have hc11 := MH1.out.cells
                                   clear hb11)
                                | (go_at_call 16
                                   (with_reducible refine (T2.out _ MH1.out).mono ?_)
                                   rintro e w12 ⟨rfl, hb12⟩
                                   have MH2 := Lib.hid (MH1.out.below hb12)
                                   have hc12 := MH2.out.cells
                                   clear hb12)))
                            have hbx := MH2.out.bx.cells
                            clear MH MH1 hc10 hc11 T1 T2
                            have d1 : IntKind.i64.wrap (minM M num + r.f) = minM M num + r.f := IntWalk.i64_in _ (by omega)
                            have d2 : wrap64 (minM M num + r.f) = minM M num + r.f := (i64_w _).symm.trans d1
                            generalize minM M num = m at *
                            by_cases hk : r.k = 4
                            · have q4 : (r.k == 4) = true := beq_iff_eq.2 hk
                              obtain ⟨n1, n2⟩ := hnv hk
                              have q5 : decide (y ≤ x) = true := decide_eq_true n1
                              clear hk hgm hnv
                              cases hh : hit M num with
                              | false =>
                                rw [hh] at MN
                                clear hh n2
                                go_wp2_with (go_at_call 17; (with_reducible refine (MN.out _ MH2.out).mono ?_); rintro e w13 ⟨rfl, hb13⟩; have MH3 := Lib.hid (MH2.out.below hb13); have hbx3 := MH3.out.bx.cells; clear hb13)
                                go_ret
                                exact ⟨rfl, MH3.out.a.kt.bel⟩
                              | true =>
                                rw [hh] at MN
                                obtain ⟨n3, n4⟩ := n2 hh
                                have q6 : decide (y ≤ m + r.f) = true := decide_eq_true n3
                                clear hh n2
                                by_cases hxy : y = x
                                · have q7 : (y == x) = true := beq_iff_eq.2 hxy
                                  clear hxy n4
                                  go_wp2_with (go_at_call 17; (with_reducible refine (MN.out _ MH2.out).mono ?_); rintro e w13 ⟨rfl, hb13⟩; have MH3 := Lib.hid (MH2.out.below hb13); have hbx3 := MH3.out.bx.cells; clear hb13)
                                  go_ret
                                  exact ⟨rfl, MH3.out.a.kt.bel⟩
                                · have q7 : (y == x) = false := beq_eq_false_iff_ne.2 hxy
                                  have q8 : (y == m + r.f) = true := beq_iff_eq.2 (n4.resolve_left hxy)
                                  clear hxy n4
                                  go_wp2_with (go_at_call 17; (with_reducible refine (MN.out _ MH2.out).mono ?_); rintro e w13 ⟨rfl, hb13⟩; have MH3 := Lib.hid (MH2.out.below hb13); have hbx3 := MH3.out.bx.cells; clear hb13)
                                  go_ret
                                  exact ⟨rfl, MH3.out.a.kt.bel⟩
                            · have q4 : (r.k == 4) = false := beq_eq_false_iff_ne.2 hk
                              have q5 : decide (x ≤ y) = true := decide_eq_true (hgm hk)
                              clear hgm hnv hk
                              go_wp2
                              go_ret
                              exact ⟨rfl, MH2.out.a.kt.bel⟩
                      exact AllReadyH.nil
                  refine AllReadyH.cons1 ⟨?_, ?_, fun K hK => ?_⟩ ?_
                  rotate_left
                  · simp only [List.getElem?_toArray, List.getElem?_cons_zero, List.getElem?_cons_succ]; rfl
                  · rw [if_pos (by rfl)]
                    go_simp
                    refine hK.out _ _ (KS.out _ (below_alloc hHeld.2 (.cells #[.slice none 0 0, .int .i64 0, .bool false] 32))) (fun hHeld => ?_)
                    clear hK K
                    try simp only [Act.put, List.setIfInBounds_toArray, List.set_cons_zero, List.set_cons_succ]
                    as_aux_lemma =>
                      refine wpAnyH_ready (rs := [6]) (by kernel_rfl) (by simp) ?_
                      refine AllReadyH.cons1 ⟨?_, ?_, fun K hK => ?_⟩ ?_
                      rotate_left
                      · simp only [List.getElem?_toArray, List.getElem?_cons_zero, List.getElem?_cons_succ]; rfl
                      · rw [if_pos (by rfl)]
                        go_simp
                        go_at_call 14; (with_reducible refine (C2.out _ _ _ (World.ownsRow.alloc ho2 (.cells #[.slice none 0 0, .int .i64 0, .bool false] 32))).mono ?_); rintro e w8 ⟨A3, c3, ks3, rfl, hk8, hm8, hb8⟩
                        have hsz8 := Nat.le_trans hHeld.2.size hb8.size
                        have hzf := (hb8.block _ (lt_heap (heap_alloc_new w7 (.cells #[.slice none 0 0, .int .i64 0, .bool false] 32)))).trans (heap_alloc_new w7 (.cells #[.slice none 0 0, .int .i64 0, .bool false] 32))
                        refine hK.out _ _ (KS.out _ (hHeld.2.trans (hb8.mono hHeld.2.size))) (fun hHeld => ?_)
                        clear hK K
                        try simp only [Act.put, List.setIfInBounds_toArray, List.set_cons_zero, List.set_cons_succ]
                        refine wpAnyH_takeL 7 #[true, true, true, true, true, true, true, true, false, false, true, false, false] (by kernel_rfl) (by kernel_rfl) (by kernel_rfl) (by kernel_rfl) (fun d v c a w h => h) (by assumption) ⟨?_, ?_, ?_, Or.inl ⟨?_, ?_⟩, ?_⟩
                        rotate_left
                        · simp only [List.getElem?_toArray, List.getElem?_cons_zero, List.getElem?_cons_succ]; rfl
                        rotate_left
                        · rfl
                        · intro w hSw; (try dsimp only at hSw); go_simp; try (with_reducible rfl)
                        simp only [Act.put, List.setIfInBounds_toArray, List.set_cons_zero, List.set_cons_succ]
                        refine wpAnyH_takeL 8 #[true, true, true, true, true, true, true, true, true, false, true, false, false] (by kernel_rfl) (by kernel_rfl) (by kernel_rfl) (by kernel_rfl) (fun d v c a w h => h) (by assumption) ⟨?_, ?_, ?_, Or.inl ⟨?_, ?_⟩, ?_⟩
                        rotate_left
                        · simp only [List.getElem?_toArray, List.getElem?_cons_zero, List.getElem?_cons_succ]; rfl
                        rotate_left
                        · rfl
                        · intro w hSw; (try dsimp only at hSw); go_simp; try (with_reducible rfl)
                        simp only [Act.put, List.setIfInBounds_toArray, List.set_cons_zero, List.set_cons_succ]
                        refine wpAnyH_takeL 9 #[true, true, true, true, true, true, true, true, true, true, true, false, false] (by kernel_rfl) (by kernel_rfl) (by kernel_rfl) (by kernel_rfl) (fun d v c a w h => h) (by assumption) ⟨?_, ?_, ?_, Or.inl ⟨?_, ?_⟩, ?_⟩
                        rotate_left
                        · simp only [List.getElem?_toArray, List.getElem?_cons_zero, List.getElem?_cons_succ]; rfl
                        rotate_left
                        · rfl
                        · intro w hSw; (try dsimp only at hSw); go_simp; try (with_reducible rfl)
                        simp only [Act.put, List.setIfInBounds_toArray, List.set_cons_zero, List.set_cons_succ]
                        as_aux_lemma =>
                          have hbl8 := hHeld.2
                          refine wpAnyH_oneL 11 #[true, true, true, true, true, true, true, true, true, true, true, true, false] (by kernel_rfl) (by kernel_rfl) ⟨?_, ?_, fun K hK => ?_⟩
                          rotate_left
                          · simp only [List.getElem?_toArray, List.getElem?_cons_zero, List.getElem?_cons_succ]; rfl
                          have z0 := cell_of_row _ _ 0 _ _ (0, 0) hzf
                          have z1 := cell_of_row _ _ 1 _ _ (0, 0) hzf
                          have z2 := cell_of_row _ _ 2 _ _ (0, 0) hzf
                          have y0 := frozen_of_row _ _ 0 _ _ hzf
                          have y1 := frozen_of_row _ _ 1 _ _ hzf
                          have y2 := frozen_of_row _ _ 2 _ _ hzf
                          simp only [List.size_toArray, List.getElem?_toArray, List.getElem?_cons_zero, List.getElem?_cons_succ] at z0 z1 z2
                          rw [if_pos (by rfl)]
                          go_simp
                          have hx9 := zset hzf (.slice A3 ks3.length c3) (.int .i64 (neverF (R ++ [r])).1) (.bool (neverF (R ++ [r])).2)
                          have hk9 := hk8.chg hx9.2 (fun k cur hk e => by subst e; exact heap_ne hzf hk (by simp) rfl) (fun k cur hk e => by subst e; exact heap_ne hzf hk (by simp) rfl)
                          have hbl9 := hx9.2.below hbl8 hbl8.size (fun k e => by omega)
                          refine hK.out _ _ (KS.out _ hbl9) (fun hHeld => ?_)
                          replace hx9 := hx9.1
                          generalize World.setCell _ _ _ = W9 at *
                          clear hK K
                          try simp only [Act.put, List.setIfInBounds_toArray, List.set_cons_zero, List.set_cons_succ]
                          refine wpAnyH_takeL 12 #[true, true, true, true, true, true, true, true, true, true, true, true, true] (by kernel_rfl) (by kernel_rfl) (by kernel_rfl) (by kernel_rfl) (fun d v c a w h => h) (by assumption) ⟨?_, ?_, ?_, Or.inl ⟨?_, ?_⟩, ?_⟩
                          rotate_left
                          · simp only [List.getElem?_toArray, List.getElem?_cons_zero, List.getElem?_cons_succ]; rfl
                          rotate_left
                          · rfl
                          · intro w hSw; (try dsimp only at hSw); go_simp; try (with_reducible rfl)
                          simp only [Act.put, List.setIfInBounds_toArray, List.set_cons_zero, List.set_cons_succ]
                          refine wpAnyH_done (by kernel_rfl) (NoPanic.normal ?_) _
                          obtain ⟨q2, hq2⟩ : ∃ q2, q2 = w7.heap.size := ⟨_, rfl⟩
                          rw [← hq2] at hx9 ⊢
                          clear hq2
                          as_aux_lemma =>
                            have hbw9 := Lib.hid (hbw5.out.trans (hbl9.mono hbw5.out.size))
                            have HKB := Lib.hid hk9
                            have HX9 := Lib.hid hx9
                            have HM8 := Lib.hid hm8
                            have HBL := Lib.hid hbl9
                            clear hk9 hx9 hm8 hbl9
                            go_upto_region 8 with (go_at_call 15; (with_reducible refine (made_calls (B := w.heap.size) (hS.out.below hbw9.out) hbw9.out.size hs.out h30).mono ?_); rintro e w10 ⟨b, gx, rfl, ⟨base, A4, c4, hl1, hl2, hl3, ht4⟩, hx4, hb10⟩; have hl1' := Nat.le_trans HBL.out.size hl1; have hl2' := Nat.le_trans HBL.out.size hl2; have hbb := HBL.out.trans (hb10.mono HBL.out.size); have BX := Lib.hid (bo_below bx5.out hbb); rw [← hW5] at hl1' hl2' hbb; have H1 := Lib.hid (lw_mk RT.out hb3.out hk4.out hm4.out hb4.out hl1' hl2' hl3 ⟨_, _, ht4⟩ hbb); have H2 := Lib.hid (lw_mk2 RT2.out HKB.out HM8.out HX9.out hbw9.out hl1 hl2 hl3 ⟨_, _, ht4⟩ hb10); clear hl1 hl2 hl3 ht4 hx4 hb10 hl1' hl2' hbb)
                            generalize mkM L L.length = M at *
                            have MH : MoreH w w10 R r M base b num w3.heap.size w4.heap.size A c ks _ q2 A3 c3 ks3 := ⟨H1.out, H2.out, BX.out, G.out, fun h => more_ge RT2.out h G.out num, fun h => more_never RT.out hrb.out h G.out num, minM_rng G.out num, rightB_f hrb.out⟩
                            clear HKB HX9 HM8 HBL hbw9 H1 H2 BX bx5 hb45 hbw5 KS RD C2 hz5 hS5 hW5 X4 RT RT2 hb3 hb4 hk4 hm4 hR hS hs hrb
                            generalize w4.heap.size = q1 at *
                            have T1 := Lib.hid MH.t1
                            have T2 := Lib.hid MH.t2
                            have MN := Lib.hid MH.mn
                            have hnv := MH.nv
                            have hgm := MH.ge
                            have hwr := MH.wr
                            have hrf := MH.rf
                            have hc10 := MH.cells
                            replace MH := Lib.hid MH
                            generalize tl R M num = x at *
                            generalize tl (R ++ [r]) M num = y at *
                            go_region_held3 (fun w' => (w'.cell? { block := q1, off := 0 } = some (.slice A ks.length c) ∧ w'.cell? { block := q1, off := 1 } = some (.int .i64 (neverF R).1) ∧ w'.cell? { block := q1, off := 2 } = some (.bool (neverF R).2)) ∧ w'.cell? { block := q2, off := 0 } = some (.slice A3 ks3.length c3) ∧ w'.cell? { block := q2, off := 1 } = some (.int .i64 (neverF (R ++ [r])).1) ∧ w'.cell? { block := q2, off := 2 } = some (.bool (neverF (R ++ [r])).2)) (first | exact hc10 | exact hc11 | exact hc12)
                              ((first
                                | (go_at_call 16
                                   (with_reducible refine (T1.out _ (MH.out.below (below_drew (Below.refl _ _)))).mono ?_)
                                   rintro e w11 ⟨rfl, hb11⟩
                                   have MH1 := Lib.hid (MH.out.below ((below_drew (Below.refl _ _)).trans hb11))
                                   have hc11 := MH1.out.cells
                                   clear hb11)
                                | (go_at_call 16
                                   (with_reducible refine (T2.out _ MH1.out).mono ?_)
                                   rintro e w12 ⟨rfl, hb12⟩
                                   have MH2 := Lib.hid (MH1.out.below hb12)
                                   have hc12 := MH2.out.cells
                                   clear hb12)))
                            have hbx := MH2.out.bx.cells
                            clear MH MH1 hc10 hc11 T1 T2
                            have d1 : IntKind.i64.wrap (minM M num + r.f) = minM M num + r.f := IntWalk.i64_in _ (by omega)
                            have d2 : wrap64 (minM M num + r.f) = minM M num + r.f := (i64_w _).symm.trans d1
                            generalize minM M num = m at *
                            by_cases hk : r.k = 4
                            · have q4 : (r.k == 4) = true := beq_iff_eq.2 hk
                              obtain ⟨n1, n2⟩ := hnv hk
                              have q5 : decide (y ≤ x) = true := decide_eq_true n1
                              clear hk hgm hnv
                              cases hh : hit M num with
                              | false =>
                                rw [hh] at MN
                                clear hh n2
                                go_wp2_with (go_at_call 17; (with_reducible refine (MN.out _ MH2.out).mono ?_); rintro e w13 ⟨rfl, hb13⟩; have MH3 := Lib.hid (MH2.out.below hb13); have hbx3 := MH3.out.bx.cells; clear hb13)
                                go_ret
                                exact ⟨rfl, MH3.out.a.kt.bel⟩
                              | true =>
                                rw [hh] at MN
                                obtain ⟨n3, n4⟩ := n2 hh
                                have q6 : decide (y ≤ m + r.f) = true := decide_eq_true n3
                                clear hh n2
                                by_cases hxy : y = x
                                · have q7 : (y == x) = true := beq_iff_eq.2 hxy
                                  clear hxy n4
                                  go_wp2_with (go_at_call 17; (with_reducible refine (MN.out _ MH2.out).mono ?_); rintro e w13 ⟨rfl, hb13⟩; have MH3 := Lib.hid (MH2.out.below hb13); have hbx3 := MH3.out.bx.cells; clear hb13)
                                  go_ret
                                  exact ⟨rfl, MH3.out.a.kt.bel⟩
                                · have q7 : (y == x) = false := beq_eq_false_iff_ne.2 hxy
                                  have q8 : (y == m + r.f) = true := beq_iff_eq.2 (n4.resolve_left hxy)
                                  clear hxy n4
                                  go_wp2_with (go_at_call 17; (with_reducible refine (MN.out _ MH2.out).mono ?_); rintro e w13 ⟨rfl, hb13⟩; have MH3 := Lib.hid (MH2.out.below hb13); have hbx3 := MH3.out.bx.cells; clear hb13)
                                  go_ret
                                  exact ⟨rfl, MH3.out.a.kt.bel⟩
                            · have q4 : (r.k == 4) = false := beq_eq_false_iff_ne.2 hk
                              have q5 : decide (x ≤ y) = true := decide_eq_true (hgm hk)
                              clear hgm hnv hk
                              go_wp2
                              go_ret
                              exact ⟨rfl, MH2.out.a.kt.bel⟩
                      exact AllReadyH.nil
                  exact AllReadyH.nil
              refine AllReadyH.cons1 ⟨?_, ?_, fun K hK => ?_⟩ ?_
              rotate_left
              · simp only [List.getElem?_toArray, List.getElem?_cons_zero, List.getElem?_cons_succ]; rfl
              · rw [if_pos (by rfl)]
                go_simp
                refine hK.out _ _ (KS.out _ (below_alloc hHeld.2 (.cells #[.slice none 0 0, .int .i64 0, .bool false] 32))) (fun hHeld => ?_)
                clear hK K
                try simp only [Act.put, List.setIfInBounds_toArray, List.set_cons_zero, List.set_cons_succ]
                as_aux_lemma =>
                  refine wpAnyH_ready (rs := [5]) (by kernel_rfl) (by simp) ?_
                  refine AllReadyH.cons1 ⟨?_, ?_, fun K hK => ?_⟩ ?_
                  rotate_left
                  · simp only [List.getElem?_toArray, List.getElem?_cons_zero, List.getElem?_cons_succ]; rfl
                  · have hbl := hHeld.2
                    refine step_append_any _ rfl (.tmp 47) (.tmp 49) 22 rfl W5.heap.size 24 ir _ 3 24 Try.underlying22 hir.out zr0 zr1 zr2 rfl (by decide) (.slice A1 R.length c1) R.length (rucs R) rfl (World.ownsRow.alloc (World.ownsRow.alloc ho1 (.cells #[.int .i64 r.k, .int .i64 r.l, .int .i64 r.f] 24)) (.cells #[.slice none 0 0, .int .i64 0, .bool false] 32)) _ _ 1 1 (ruc r) rfl (reads3 (hn21 w6 (.cells #[.int .i64 r.k, .int .i64 r.l, .int .i64 r.f] 24) (.cells #[.slice none 0 0, .int .i64 0, .bool false] 32))) (by unfold ruc; simp [Value.oneCell']) hx0.out.2.1 hx0.out.2.2 hbl.size ?_
                    intro v2 w7 ho2 hg2 ha2
                    obtain ⟨A2, c2, rfl, hcap2⟩ := own_slice_cap ho2
                    have hb7 := hbl.grown hg2 hbl.size (own_base ho1)
                    have hz7 := hb7.size
                    have hzf := zkeep2 hg2 (World.ownsRow.alloc (World.ownsRow.alloc ho1 (.cells #[.int .i64 r.k, .int .i64 r.l, .int .i64 r.f] 24)) (.cells #[.slice none 0 0, .int .i64 0, .bool false] 32)) (hn22 w6 (.cells #[.int .i64 r.k, .int .i64 r.l, .int .i64 r.f] 24) (.cells #[.slice none 0 0, .int .i64 0, .bool false] 32))
                    refine hK.out _ _ (KS.out _ hb7) (fun hHeld => ?_)
                    clear hK K
                    try simp only [Act.put, List.setIfInBounds_toArray, List.set_cons_zero, List.set_cons_succ]
                    as_aux_lemma =>
                      refine wpAnyH_ready (rs := [6]) (by kernel_rfl) (by simp) ?_
                      refine AllReadyH.cons1 ⟨?_, ?_, fun K hK => ?_⟩ ?_
                      rotate_left
                      · simp only [List.getElem?_toArray, List.getElem?_cons_zero, List.getElem?_cons_succ]; rfl
                      · rw [if_pos (by rfl)]
                        go_simp
                        go_at_call 14; (with_reducible refine (C2.out _ _ _ ho2).mono ?_); rintro e w8 ⟨A3, c3, ks3, rfl, hk8, hm8, hb8⟩
                        have hsz8 := Nat.le_trans hHeld.2.size hb8.size
                        have hzf := (hb8.block _ (lt_heap hzf)).trans hzf
                        refine hK.out _ _ (KS.out _ (hHeld.2.trans (hb8.mono hHeld.2.size))) (fun hHeld => ?_)
                        clear hK K
                        try simp only [Act.put, List.setIfInBounds_toArray, List.set_cons_zero, List.set_cons_succ]
                        refine wpAnyH_takeL 7 #[true, true, true, true, true, true, true, true, false, false, true, false, false] (by kernel_rfl) (by kernel_rfl) (by kernel_rfl) (by kernel_rfl) (fun d v c a w h => h) (by assumption) ⟨?_, ?_, ?_, Or.inl ⟨?_, ?_⟩, ?_⟩
                        rotate_left
                        · simp only [List.getElem?_toArray, List.getElem?_cons_zero, List.getElem?_cons_succ]; rfl
                        rotate_left
                        · rfl
                        · intro w hSw; (try dsimp only at hSw); go_simp; try (with_reducible rfl)
                        simp only [Act.put, List.setIfInBounds_toArray, List.set_cons_zero, List.set_cons_succ]
                        refine wpAnyH_takeL 8 #[true, true, true, true, true, true, true, true, true, false, true, false, false] (by kernel_rfl) (by kernel_rfl) (by kernel_rfl) (by kernel_rfl) (fun d v c a w h => h) (by assumption) ⟨?_, ?_, ?_, Or.inl ⟨?_, ?_⟩, ?_⟩
                        rotate_left
                        · simp only [List.getElem?_toArray, List.getElem?_cons_zero, List.getElem?_cons_succ]; rfl
                        rotate_left
                        · rfl
                        · intro w hSw; (try dsimp only at hSw); go_simp; try (with_reducible rfl)
                        simp only [Act.put, List.setIfInBounds_toArray, List.set_cons_zero, List.set_cons_succ]
                        refine wpAnyH_takeL 9 #[true, true, true, true, true, true, true, true, true, true, true, false, false] (by kernel_rfl) (by kernel_rfl) (by kernel_rfl) (by kernel_rfl) (fun d v c a w h => h) (by assumption) ⟨?_, ?_, ?_, Or.inl ⟨?_, ?_⟩, ?_⟩
                        rotate_left
                        · simp only [List.getElem?_toArray, List.getElem?_cons_zero, List.getElem?_cons_succ]; rfl
                        rotate_left
                        · rfl
                        · intro w hSw; (try dsimp only at hSw); go_simp; try (with_reducible rfl)
                        simp only [Act.put, List.setIfInBounds_toArray, List.set_cons_zero, List.set_cons_succ]
                        as_aux_lemma =>
                          have hbl8 := hHeld.2
                          refine wpAnyH_oneL 11 #[true, true, true, true, true, true, true, true, true, true, true, true, false] (by kernel_rfl) (by kernel_rfl) ⟨?_, ?_, fun K hK => ?_⟩
                          rotate_left
                          · simp only [List.getElem?_toArray, List.getElem?_cons_zero, List.getElem?_cons_succ]; rfl
                          have z0 := cell_of_row _ _ 0 _ _ (0, 0) hzf
                          have z1 := cell_of_row _ _ 1 _ _ (0, 0) hzf
                          have z2 := cell_of_row _ _ 2 _ _ (0, 0) hzf
                          have y0 := frozen_of_row _ _ 0 _ _ hzf
                          have y1 := frozen_of_row _ _ 1 _ _ hzf
                          have y2 := frozen_of_row _ _ 2 _ _ hzf
                          simp only [List.size_toArray, List.getElem?_toArray, List.getElem?_cons_zero, List.getElem?_cons_succ] at z0 z1 z2
                          rw [if_pos (by rfl)]
                          go_simp
                          have hx9 := zset hzf (.slice A3 ks3.length c3) (.int .i64 (neverF (R ++ [r])).1) (.bool (neverF (R ++ [r])).2)
                          have hk9 := hk8.chg hx9.2 (fun k cur hk e => by subst e; exact heap_ne hzf hk (by simp) rfl) (fun k cur hk e => by subst e; exact heap_ne hzf hk (by simp) rfl)
                          have hbl9 := hx9.2.below hbl8 hbl8.size (fun k e => by omega)
                          refine hK.out _ _ (KS.out _ hbl9) (fun hHeld => ?_)
                          replace hx9 := hx9.1
                          generalize World.setCell _ _ _ = W9 at *
                          clear hK K
                          try simp only [Act.put, List.setIfInBounds_toArray, List.set_cons_zero, List.set_cons_succ]
                          refine wpAnyH_takeL 12 #[true, true, true, true, true, true, true, true, true, true, true, true, true] (by kernel_rfl) (by kernel_rfl) (by kernel_rfl) (by kernel_rfl) (fun d v c a w h => h) (by assumption) ⟨?_, ?_, ?_, Or.inl ⟨?_, ?_⟩, ?_⟩
                          rotate_left
                          · simp only [List.getElem?_toArray, List.getElem?_cons_zero, List.getElem?_cons_succ]; rfl
                          rotate_left
                          · rfl
                          · intro w hSw; (try dsimp only at hSw); go_simp; try (with_reducible rfl)
                          simp only [Act.put, List.setIfInBounds_toArray, List.set_cons_zero, List.set_cons_succ]
                          refine wpAnyH_done (by kernel_rfl) (NoPanic.normal ?_) _
                          obtain ⟨q2, hq2⟩ : ∃ q2, q2 = w6.heap.size + 1 := ⟨_, rfl⟩
                          rw [← hq2] at hx9 ⊢
                          clear hq2
                          as_aux_lemma =>
                            have hbw9 := Lib.hid (hbw5.out.trans (hbl9.mono hbw5.out.size))
                            have HKB := Lib.hid hk9
                            have HX9 := Lib.hid hx9
                            have HM8 := Lib.hid hm8
                            have HBL := Lib.hid hbl9
                            clear hk9 hx9 hm8 hbl9
                            go_upto_region 8 with (go_at_call 15; (with_reducible refine (made_calls (B := w.heap.size) (hS.out.below hbw9.out) hbw9.out.size hs.out h30).mono ?_); rintro e w10 ⟨b, gx, rfl, ⟨base, A4, c4, hl1, hl2, hl3, ht4⟩, hx4, hb10⟩; have hl1' := Nat.le_trans HBL.out.size hl1; have hl2' := Nat.le_trans HBL.out.size hl2; have hbb := HBL.out.trans (hb10.mono HBL.out.size); have BX := Lib.hid (bo_below bx5.out hbb); rw [← hW5] at hl1' hl2' hbb; have H1 := Lib.hid (lw_mk RT.out hb3.out hk4.out hm4.out hb4.out hl1' hl2' hl3 ⟨_, _, ht4⟩ hbb); have H2 := Lib.hid (lw_mk2 RT2.out HKB.out HM8.out HX9.out hbw9.out hl1 hl2 hl3 ⟨_, _, ht4⟩ hb10); clear hl1 hl2 hl3 ht4 hx4 hb10 hl1' hl2' hbb)
                            generalize mkM L L.length = M at *
                            have MH : MoreH w w10 R r M base b num w3.heap.size w4.heap.size A c ks _ q2 A3 c3 ks3 := ⟨H1.out, H2.out, BX.out, G.out, fun h => more_ge RT2.out h G.out num, fun h => more_never RT.out hrb.out h G.out num, minM_rng G.out num, rightB_f hrb.out⟩
                            clear HKB HX9 HM8 HBL hbw9 H1 H2 BX bx5 hb45 hbw5 KS RD C2 hz5 hS5 hW5 X4 RT RT2 hb3 hb4 hk4 hm4 hR hS hs hrb
                            generalize w4.heap.size = q1 at *
                            have T1 := Lib.hid MH.t1
                            have T2 := Lib.hid MH.t2
                            have MN := Lib.hid MH.mn
                            have hnv := MH.nv
                            have hgm := MH.ge
                            have hwr := MH.wr
                            have hrf := MH.rf
                            have hc10 := MH.cells
                            replace MH := Lib.hid MH
                            generalize tl R M num = x at *
                            generalize tl (R ++ [r]) M num = y at *
                            go_region_held3 (fun w' => (w'.cell? { block := q1, off := 0 } = some (.slice A ks.length c) ∧ w'.cell? { block := q1, off := 1 } = some (.int .i64 (neverF R).1) ∧ w'.cell? { block := q1, off := 2 } = some (.bool (neverF R).2)) ∧ w'.cell? { block := q2, off := 0 } = some (.slice A3 ks3.length c3) ∧ w'.cell? { block := q2, off := 1 } = some (.int .i64 (neverF (R ++ [r])).1) ∧ w'.cell? { block := q2, off := 2 } = some (.bool (neverF (R ++ [r])).2)) (first | exact hc10 | exact hc11 | exact hc12)
                              ((first
                                | (go_at_call 16
                                   (with_reducible refine (T1.out _ (MH.out.below (below_drew (Below.refl _ _)))).mono ?_)
                                   rintro e w11 ⟨rfl, hb11⟩
                                   have MH1 := Lib.hid (MH.out.below ((below_drew (Below.refl _ _)).trans hb11))
                                   have hc11 := MH1.out.cells
                                   clear hb11)
                                | (go_at_call 16
                                   (with_reducible refine (T2.out _ MH1.out).mono ?_)
                                   rintro e w12 ⟨rfl, hb12⟩
                                   have MH2 := Lib.hid (MH1.out.below hb12)
                                   have hc12 := MH2.out.cells
                                   clear hb12)))
                            have hbx := MH2.out.bx.cells
                            clear MH MH1 hc10 hc11 T1 T2
                            have d1 : IntKind.i64.wrap (minM M num + r.f) = minM M num + r.f := IntWalk.i64_in _ (by omega)
                            have d2 : wrap64 (minM M num + r.f) = minM M num + r.f := (i64_w _).symm.trans d1
                            generalize minM M num = m at *
                            by_cases hk : r.k = 4
                            · have q4 : (r.k == 4) = true := beq_iff_eq.2 hk
                              obtain ⟨n1, n2⟩ := hnv hk
                              have q5 : decide (y ≤ x) = true := decide_eq_true n1
                              clear hk hgm hnv
                              cases hh : hit M num with
                              | false =>
                                rw [hh] at MN
                                clear hh n2
                                go_wp2_with (go_at_call 17; (with_reducible refine (MN.out _ MH2.out).mono ?_); rintro e w13 ⟨rfl, hb13⟩; have MH3 := Lib.hid (MH2.out.below hb13); have hbx3 := MH3.out.bx.cells; clear hb13)
                                go_ret
                                exact ⟨rfl, MH3.out.a.kt.bel⟩
                              | true =>
                                rw [hh] at MN
                                obtain ⟨n3, n4⟩ := n2 hh
                                have q6 : decide (y ≤ m + r.f) = true := decide_eq_true n3
                                clear hh n2
                                by_cases hxy : y = x
                                · have q7 : (y == x) = true := beq_iff_eq.2 hxy
                                  clear hxy n4
                                  go_wp2_with (go_at_call 17; (with_reducible refine (MN.out _ MH2.out).mono ?_); rintro e w13 ⟨rfl, hb13⟩; have MH3 := Lib.hid (MH2.out.below hb13); have hbx3 := MH3.out.bx.cells; clear hb13)
                                  go_ret
                                  exact ⟨rfl, MH3.out.a.kt.bel⟩
                                · have q7 : (y == x) = false := beq_eq_false_iff_ne.2 hxy
                                  have q8 : (y == m + r.f) = true := beq_iff_eq.2 (n4.resolve_left hxy)
                                  clear hxy n4
                                  go_wp2_with (go_at_call 17; (with_reducible refine (MN.out _ MH2.out).mono ?_); rintro e w13 ⟨rfl, hb13⟩; have MH3 := Lib.hid (MH2.out.below hb13); have hbx3 := MH3.out.bx.cells; clear hb13)
                                  go_ret
                                  exact ⟨rfl, MH3.out.a.kt.bel⟩
                            · have q4 : (r.k == 4) = false := beq_eq_false_iff_ne.2 hk
                              have q5 : decide (x ≤ y) = true := decide_eq_true (hgm hk)
                              clear hgm hnv hk
                              go_wp2
                              go_ret
                              exact ⟨rfl, MH2.out.a.kt.bel⟩
                      exact AllReadyH.nil
                  exact AllReadyH.nil
              exact AllReadyH.nil
          refine AllReadyH.cons1 ⟨?_, ?_, fun K hK => ?_⟩ ?_
          rotate_left
          · simp only [List.getElem?_toArray, List.getElem?_cons_zero, List.getElem?_cons_succ]; rfl
          · rw [if_pos (by rfl)]
            go_simp
            refine hK.out _ _ (KS.out _ (below_alloc hHeld.2 (.cells #[.slice none 0 0, .int .i64 0, .bool false] 32))) (fun hHeld => ?_)
            clear hK K
            try simp only [Act.put, List.setIfInBounds_toArray, List.set_cons_zero, List.set_cons_succ]
            as_aux_lemma =>
              refine wpAnyH_ready (rs := [4]) (by kernel_rfl) (by simp) ?_
              refine AllReadyH.cons1 ⟨?_, ?_, fun K hK => ?_⟩ ?_
              rotate_left
              · simp only [List.getElem?_toArray, List.getElem?_cons_zero, List.getElem?_cons_succ]; rfl
              · rw [if_pos (by rfl)]
                go_simp
                refine hK.out _ _ (KS.out _ (below_alloc hHeld.2 (.cells #[.int .i64 r.k, .int .i64 r.l, .int .i64 r.f] 24))) (fun hHeld => ?_)
                clear hK K
                try simp only [Act.put, List.setIfInBounds_toArray, List.set_cons_zero, List.set_cons_succ]
                as_aux_lemma =>
                  refine wpAnyH_ready (rs := [5]) (by kernel_rfl) (by simp) ?_
                  refine AllReadyH.cons1 ⟨?_, ?_, fun K hK => ?_⟩ ?_
                  rotate_left
                  · simp only [List.getElem?_toArray, List.getElem?_cons_zero, List.getElem?_cons_succ]; rfl
                  · have hbl := hHeld.2
                    refine step_append_any _ rfl (.tmp 47) (.tmp 49) 22 rfl W5.heap.size 24 ir _ 3 24 Try.underlying22 hir.out zr0 zr1 zr2 rfl (by decide) (.slice A1 R.length c1) R.length (rucs R) rfl (World.ownsRow.alloc (World.ownsRow.alloc ho1 (.cells #[.slice none 0 0, .int .i64 0, .bool false] 32)) (.cells #[.int .i64 r.k, .int .i64 r.l, .int .i64 r.f] 24)) _ _ 1 1 (ruc r) rfl (reads3 (hn22 w6 (.cells #[.slice none 0 0, .int .i64 0, .bool false] 32) (.cells #[.int .i64 r.k, .int .i64 r.l, .int .i64 r.f] 24))) (by unfold ruc; simp [Value.oneCell']) hx0.out.2.1 hx0.out.2.2 hbl.size ?_
                    intro v2 w7 ho2 hg2 ha2
                    obtain ⟨A2, c2, rfl, hcap2⟩ := own_slice_cap ho2
                    have hb7 := hbl.grown hg2 hbl.size (own_base ho1)
                    have hz7 := hb7.size
                    have hzf := zkeep2 hg2 (World.ownsRow.alloc (World.ownsRow.alloc ho1 (.cells #[.slice none 0 0, .int .i64 0, .bool false] 32)) (.cells #[.int .i64 r.k, .int .i64 r.l, .int .i64 r.f] 24)) (hn21 w6 (.cells #[.slice none 0 0, .int .i64 0, .bool false] 32) (.cells #[.int .i64 r.k, .int .i64 r.l, .int .i64 r.f] 24))
                    refine hK.out _ _ (KS.out _ hb7) (fun hHeld => ?_)
                    clear hK K
                    try simp only [Act.put, List.setIfInBounds_toArray, List.set_cons_zero, List.set_cons_succ]
                    as_aux_lemma =>
                      refine wpAnyH_ready (rs := [6]) (by kernel_rfl) (by simp) ?_
                      refine AllReadyH.cons1 ⟨?_, ?_, fun K hK => ?_⟩ ?_
                      rotate_left
                      · simp only [List.getElem?_toArray, List.getElem?_cons_zero, List.getElem?_cons_succ]; rfl
                      · rw [if_pos (by rfl)]
                        go_simp
                        go_at_call 14; (with_reducible refine (C2.out _ _ _ ho2).mono ?_); rintro e w8 ⟨A3, c3, ks3, rfl, hk8, hm8, hb8⟩
                        have hsz8 := Nat.le_trans hHeld.2.size hb8.size
                        have hzf := (hb8.block _ (lt_heap hzf)).trans hzf
                        refine hK.out _ _ (KS.out _ (hHeld.2.trans (hb8.mono hHeld.2.size))) (fun hHeld => ?_)
                        clear hK K
                        try simp only [Act.put, List.setIfInBounds_toArray, List.set_cons_zero, List.set_cons_succ]
                        refine wpAnyH_takeL 7 #[true, true, true, true, true, true, true, true, false, false, true, false, false] (by kernel_rfl) (by kernel_rfl) (by kernel_rfl) (by kernel_rfl) (fun d v c a w h => h) (by assumption) ⟨?_, ?_, ?_, Or.inl ⟨?_, ?_⟩, ?_⟩
                        rotate_left
                        · simp only [List.getElem?_toArray, List.getElem?_cons_zero, List.getElem?_cons_succ]; rfl
                        rotate_left
                        · rfl
                        · intro w hSw; (try dsimp only at hSw); go_simp; try (with_reducible rfl)
                        simp only [Act.put, List.setIfInBounds_toArray, List.set_cons_zero, List.set_cons_succ]
                        refine wpAnyH_takeL 8 #[true, true, true, true, true, true, true, true, true, false, true, false, false] (by kernel_rfl) (by kernel_rfl) (by kernel_rfl) (by kernel_rfl) (fun d v c a w h => h) (by assumption) ⟨?_, ?_, ?_, Or.inl ⟨?_, ?_⟩, ?_⟩
                        rotate_left
                        · simp only [List.getElem?_toArray, List.getElem?_cons_zero, List.getElem?_cons_succ]; rfl
                        rotate_left
                        · rfl
                        · intro w hSw; (try dsimp only at hSw); go_simp; try (with_reducible rfl)
                        simp only [Act.put, List.setIfInBounds_toArray, List.set_cons_zero, List.set_cons_succ]
                        refine wpAnyH_takeL 9 #[true, true, true, true, true, true, true, true, true, true, true, false, false] (by kernel_rfl) (by kernel_rfl) (by kernel_rfl) (by kernel_rfl) (fun d v c a w h => h) (by assumption) ⟨?_, ?_, ?_, Or.inl ⟨?_, ?_⟩, ?_⟩
                        rotate_left
                        · simp only [List.getElem?_toArray, List.getElem?_cons_zero, List.getElem?_cons_succ]; rfl
                        rotate_left
                        · rfl
                        · intro w hSw; (try dsimp only at hSw); go_simp; try (with_reducible rfl)
                        simp only [Act.put, List.setIfInBounds_toArray, List.set_cons_zero, List.set_cons_succ]
                        as_aux_lemma =>
                          have hbl8 := hHeld.2
                          refine wpAnyH_oneL 11 #[true, true, true, true, true, true, true, true, true, true, true, true, false] (by kernel_rfl) (by kernel_rfl) ⟨?_, ?_, fun K hK => ?_⟩
                          rotate_left
                          · simp only [List.getElem?_toArray, List.getElem?_cons_zero, List.getElem?_cons_succ]; rfl
                          have z0 := cell_of_row _ _ 0 _ _ (0, 0) hzf
                          have z1 := cell_of_row _ _ 1 _ _ (0, 0) hzf
                          have z2 := cell_of_row _ _ 2 _ _ (0, 0) hzf
                          have y0 := frozen_of_row _ _ 0 _ _ hzf
                          have y1 := frozen_of_row _ _ 1 _ _ hzf
                          have y2 := frozen_of_row _ _ 2 _ _ hzf
                          simp only [List.size_toArray, List.getElem?_toArray, List.getElem?_cons_zero, List.getElem?_cons_succ] at z0 z1 z2
                          rw [if_pos (by rfl)]
                          go_simp
                          have hx9 := zset hzf (.slice A3 ks3.length c3) (.int .i64 (neverF (R ++ [r])).1) (.bool (neverF (R ++ [r])).2)
                          have hk9 := hk8.chg hx9.2 (fun k cur hk e => by subst e; exact heap_ne hzf hk (by simp) rfl) (fun k cur hk e => by subst e; exact heap_ne hzf hk (by simp) rfl)
                          have hbl9 := hx9.2.below hbl8 hbl8.size (fun k e => by omega)
                          refine hK.out _ _ (KS.out _ hbl9) (fun hHeld => ?_)
                          replace hx9 := hx9.1
                          generalize World.setCell _ _ _ = W9 at *
                          clear hK K
                          try simp only [Act.put, List.setIfInBounds_toArray, List.set_cons_zero, List.set_cons_succ]
                          refine wpAnyH_takeL 12 #[true, true, true, true, true, true, true, true, true, true, true, true, true] (by kernel_rfl) (by kernel_rfl) (by kernel_rfl) (by kernel_rfl) (fun d v c a w h => h) (by assumption) ⟨?_, ?_, ?_, Or.inl ⟨?_, ?_⟩, ?_⟩
                          rotate_left
                          · simp only [List.getElem?_toArray, List.getElem?_cons_zero, List.getElem?_cons_succ]; rfl
                          rotate_left
                          · rfl
                          · intro w hSw; (try dsimp only at hSw); go_simp; try (with_reducible rfl)
                          simp only [Act.put, List.setIfInBounds_toArray, List.set_cons_zero, List.set_cons_succ]
                          refine wpAnyH_done (by kernel_rfl) (NoPanic.normal ?_) _
                          obtain ⟨q2, hq2⟩ : ∃ q2, q2 = w6.heap.size := ⟨_, rfl⟩
                          rw [← hq2] at hx9 ⊢
                          clear hq2
                          as_aux_lemma =>
                            have hbw9 := Lib.hid (hbw5.out.trans (hbl9.mono hbw5.out.size))
                            have HKB := Lib.hid hk9
                            have HX9 := Lib.hid hx9
                            have HM8 := Lib.hid hm8
                            have HBL := Lib.hid hbl9
                            clear hk9 hx9 hm8 hbl9
                            go_upto_region 8 with (go_at_call 15; (with_reducible refine (made_calls (B := w.heap.size) (hS.out.below hbw9.out) hbw9.out.size hs.out h30).mono ?_); rintro e w10 ⟨b, gx, rfl, ⟨base, A4, c4, hl1, hl2, hl3, ht4⟩, hx4, hb10⟩; have hl1' := Nat.le_trans HBL.out.size hl1; have hl2' := Nat.le_trans HBL.out.size hl2; have hbb := HBL.out.trans (hb10.mono HBL.out.size); have BX := Lib.hid (bo_below bx5.out hbb); rw [← hW5] at hl1' hl2' hbb; have H1 := Lib.hid (lw_mk RT.out hb3.out hk4.out hm4.out hb4.out hl1' hl2' hl3 ⟨_, _, ht4⟩ hbb); have H2 := Lib.hid (lw_mk2 RT2.out HKB.out HM8.out HX9.out hbw9.out hl1 hl2 hl3 ⟨_, _, ht4⟩ hb10); clear hl1 hl2 hl3 ht4 hx4 hb10 hl1' hl2' hbb)
                            generalize mkM L L.length = M at *
                            have MH : MoreH w w10 R r M base b num w3.heap.size w4.heap.size A c ks _ q2 A3 c3 ks3 := ⟨H1.out, H2.out, BX.out, G.out, fun h => more_ge RT2.out h G.out num, fun h => more_never RT.out hrb.out h G.out num, minM_rng G.out num, rightB_f hrb.out⟩
                            clear HKB HX9 HM8 HBL hbw9 H1 H2 BX bx5 hb45 hbw5 KS RD C2 hz5 hS5 hW5 X4 RT RT2 hb3 hb4 hk4 hm4 hR hS hs hrb
                            generalize w4.heap.size = q1 at *
                            have T1 := Lib.hid MH.t1
                            have T2 := Lib.hid MH.t2
                            have MN := Lib.hid MH.mn
                            have hnv := MH.nv
                            have hgm := MH.ge
                            have hwr := MH.wr
                            have hrf := MH.rf
                            have hc10 := MH.cells
                            replace MH := Lib.hid MH
                            generalize tl R M num = x at *
                            generalize tl (R ++ [r]) M num = y at *
                            go_region_held3 (fun w' => (w'.cell? { block := q1, off := 0 } = some (.slice A ks.length c) ∧ w'.cell? { block := q1, off := 1 } = some (.int .i64 (neverF R).1) ∧ w'.cell? { block := q1, off := 2 } = some (.bool (neverF R).2)) ∧ w'.cell? { block := q2, off := 0 } = some (.slice A3 ks3.length c3) ∧ w'.cell? { block := q2, off := 1 } = some (.int .i64 (neverF (R ++ [r])).1) ∧ w'.cell? { block := q2, off := 2 } = some (.bool (neverF (R ++ [r])).2)) (first | exact hc10 | exact hc11 | exact hc12)
                              ((first
                                | (go_at_call 16
                                   (with_reducible refine (T1.out _ (MH.out.below (below_drew (Below.refl _ _)))).mono ?_)
                                   rintro e w11 ⟨rfl, hb11⟩
                                   have MH1 := Lib.hid (MH.out.below ((below_drew (Below.refl _ _)).trans hb11))
                                   have hc11 := MH1.out.cells
                                   clear hb11)
                                | (go_at_call 16
                                   (with_reducible refine (T2.out _ MH1.out).mono ?_)
                                   rintro e w12 ⟨rfl, hb12⟩
                                   have MH2 := Lib.hid (MH1.out.below hb12)
                                   have hc12 := MH2.out.cells
                                   clear hb12)))
                            have hbx := MH2.out.bx.cells
                            clear MH MH1 hc10 hc11 T1 T2
                            have d1 : IntKind.i64.wrap (minM M num + r.f) = minM M num + r.f := IntWalk.i64_in _ (by omega)
                            have d2 : wrap64 (minM M num + r.f) = minM M num + r.f := (i64_w _).symm.trans d1
                            generalize minM M num = m at *
                            by_cases hk : r.k = 4
                            · have q4 : (r.k == 4) = true := beq_iff_eq.2 hk
                              obtain ⟨n1, n2⟩ := hnv hk
                              have q5 : decide (y ≤ x) = true := decide_eq_true n1
                              clear hk hgm hnv
                              cases hh : hit M num with
                              | false =>
                                rw [hh] at MN
                                clear hh n2
                                go_wp2_with (go_at_call 17; (with_reducible refine (MN.out _ MH2.out).mono ?_); rintro e w13 ⟨rfl, hb13⟩; have MH3 := Lib.hid (MH2.out.below hb13); have hbx3 := MH3.out.bx.cells; clear hb13)
                                go_ret
                                exact ⟨rfl, MH3.out.a.kt.bel⟩
                              | true =>
                                rw [hh] at MN
                                obtain ⟨n3, n4⟩ := n2 hh
                                have q6 : decide (y ≤ m + r.f) = true := decide_eq_true n3
                                clear hh n2
                                by_cases hxy : y = x
                                · have q7 : (y == x) = true := beq_iff_eq.2 hxy
                                  clear hxy n4
                                  go_wp2_with (go_at_call 17; (with_reducible refine (MN.out _ MH2.out).mono ?_); rintro e w13 ⟨rfl, hb13⟩; have MH3 := Lib.hid (MH2.out.below hb13); have hbx3 := MH3.out.bx.cells; clear hb13)
                                  go_ret
                                  exact ⟨rfl, MH3.out.a.kt.bel⟩
                                · have q7 : (y == x) = false := beq_eq_false_iff_ne.2 hxy
                                  have q8 : (y == m + r.f) = true := beq_iff_eq.2 (n4.resolve_left hxy)
                                  clear hxy n4
                                  go_wp2_with (go_at_call 17; (with_reducible refine (MN.out _ MH2.out).mono ?_); rintro e w13 ⟨rfl, hb13⟩; have MH3 := Lib.hid (MH2.out.below hb13); have hbx3 := MH3.out.bx.cells; clear hb13)
                                  go_ret
                                  exact ⟨rfl, MH3.out.a.kt.bel⟩
                            · have q4 : (r.k == 4) = false := beq_eq_false_iff_ne.2 hk
                              have q5 : decide (x ≤ y) = true := decide_eq_true (hgm hk)
                              clear hgm hnv hk
                              go_wp2
                              go_ret
                              exact ⟨rfl, MH2.out.a.kt.bel⟩
                      exact AllReadyH.nil
                  exact AllReadyH.nil
              exact AllReadyH.nil
          exact AllReadyH.nil
      refine AllReadyH.cons1 ⟨?_, ?_, fun K hK => ?_⟩ ?_
      rotate_left
      · simp only [List.getElem?_toArray, List.getElem?_cons_zero, List.getElem?_cons_succ]; rfl
      · rw [if_pos (by rfl)]
        go_simp
        refine hK.out _ _ (KS.out _ (below_alloc hHeld.2 (.cells #[.int .i64 r.k, .int .i64 r.l, .int .i64 r.f] 24))) (fun hHeld => ?_)
        clear hK K
        try simp only [Act.put, List.setIfInBounds_toArray, List.set_cons_zero, List.set_cons_succ]
        as_aux_lemma =>
          refine wpAnyH_ready (rs := [2, 10]) (by kernel_rfl) (by simp) ?_
          refine AllReadyH.cons1 ⟨?_, ?_, fun K hK => ?_⟩ ?_
          rotate_left
          · simp only [List.getElem?_toArray, List.getElem?_cons_zero, List.getElem?_cons_succ]; rfl
          · have hbl := hHeld.2
            have hga := (hn21 W5 (.cells #[] 24) (.cells #[.int .i64 r.k, .int .i64 r.l, .int .i64 r.f] 24))
            refine step_append_any _ rfl (.tmp 45) (.tmp 46) 22 rfl W5.heap.size 24 ir _ 3 24 Try.underlying22 hir.out zr0 zr1 zr2 rfl (by decide) (.slice (some ⟨W5.heap.size, 0, none⟩) 0 0) 0 [] rfl (own_e hga (by omega)) _ A0 R.length c0 (rucs R) rfl (RD.out _ hbl) (rucs_one R) hx0.out.1.1 hx0.out.1.2 hbl.size ?_
            intro v1 w6 ho1 hg1 ha1
            rw [Nat.zero_add, List.nil_append] at ho1
            obtain ⟨A1, c1, rfl, hcap1⟩ := own_slice_cap ho1
            have hb6 := hbl.grown hg1 hbl.size (fun k e => by simp [Value.ownBlock] at e; omega)
            have hgc := (hg1.block _ (lt_heap ((hn22 W5 (.cells #[] 24) (.cells #[.int .i64 r.k, .int .i64 r.l, .int .i64 r.f] 24)))) (by simp [Value.ownBlock] <;> omega)).trans ((hn22 W5 (.cells #[] 24) (.cells #[.int .i64 r.k, .int .i64 r.l, .int .i64 r.f] 24)))
            have hz6 := hb6.size
            refine hK.out _ _ (KS.out _ hb6) (fun hHeld => ?_)
            clear hK K
            try simp only [Act.put, List.setIfInBounds_toArray, List.set_cons_zero, List.set_cons_succ]
            as_aux_lemma =>
              refine wpAnyH_ready (rs := [5, 10]) (by kernel_rfl) (by simp) ?_
              refine AllReadyH.cons1 ⟨?_, ?_, fun K hK => ?_⟩ ?_
              rotate_left
              · simp only [List.getElem?_toArray, List.getElem?_cons_zero, List.getElem?_cons_succ]; rfl
              · have hbl := hHeld.2
                refine step_append_any _ rfl (.tmp 47) (.tmp 49) 22 rfl W5.heap.size 24 ir _ 3 24 Try.underlying22 hir.out zr0 zr1 zr2 rfl (by decide) (.slice A1 R.length c1) R.length (rucs R) rfl ho1 _ _ 1 1 (ruc r) rfl (reads3 hgc) (by unfold ruc; simp [Value.oneCell']) hx0.out.2.1 hx0.out.2.2 hbl.size ?_
                intro v2 w7 ho2 hg2 ha2
                obtain ⟨A2, c2, rfl, hcap2⟩ := own_slice_cap ho2
                have hb7 := hbl.grown hg2 hbl.size (own_base ho1)
                have hz7 := hb7.size
                refine hK.out _ _ (KS.out _ hb7) (fun hHeld => ?_)
                clear hK K
                try simp only [Act.put, List.setIfInBounds_toArray, List.set_cons_zero, List.set_cons_succ]
                as_aux_lemma =>
                  refine wpAnyH_ready (rs := [6, 10]) (by kernel_rfl) (by simp) ?_
                  refine AllReadyH.cons1 ⟨?_, ?_, fun K hK => ?_⟩ ?_
                  rotate_left
                  · simp only [List.getElem?_toArray, List.getElem?_cons_zero, List.getElem?_cons_succ]; rfl
                  · rw [if_pos (by rfl)]
                    go_simp
                    go_at_call 14; (with_reducible refine (C2.out _ _ _ ho2).mono ?_); rintro e w8 ⟨A3, c3, ks3, rfl, hk8, hm8, hb8⟩
                    have hsz8 := Nat.le_trans hHeld.2.size hb8.size
                    refine hK.out _ _ (KS.out _ (hHeld.2.trans (hb8.mono hHeld.2.size))) (fun hHeld => ?_)
                    clear hK K
                    try simp only [Act.put, List.setIfInBounds_toArray, List.set_cons_zero, List.set_cons_succ]
                    refine wpAnyH_takeL 7 #[true, true, true, true, true, true, true, true, false, false, false, false, false] (by kernel_rfl) (by kernel_rfl) (by kernel_rfl) (by kernel_rfl) (fun d v c a w h => h) (by assumption) ⟨?_, ?_, ?_, Or.inl ⟨?_, ?_⟩, ?_⟩
                    rotate_left
                    · simp only [List.getElem?_toArray, List.getElem?_cons_zero, List.getElem?_cons_succ]; rfl
                    rotate_left
                    · rfl
                    · intro w hSw; (try dsimp only at hSw); go_simp; try (with_reducible rfl)
                    simp only [Act.put, List.setIfInBounds_toArray, List.set_cons_zero, List.set_cons_succ]
                    refine wpAnyH_takeL 8 #[true, true, true, true, true, true, true, true, true, false, false, false, false] (by kernel_rfl) (by kernel_rfl) (by kernel_rfl) (by kernel_rfl) (fun d v c a w h => h) (by assumption) ⟨?_, ?_, ?_, Or.inl ⟨?_, ?_⟩, ?_⟩
                    rotate_left
                    · simp only [List.getElem?_toArray, List.getElem?_cons_zero, List.getElem?_cons_succ]; rfl
                    rotate_left
                    · rfl
                    · intro w hSw; (try dsimp only at hSw); go_simp; try (with_reducible rfl)
                    simp only [Act.put, List.setIfInBounds_toArray, List.set_cons_zero, List.set_cons_succ]
                    refine wpAnyH_takeL 9 #[true, true, true, true, true, true, true, true, true, true, false, false, false] (by kernel_rfl) (by kernel_rfl) (by kernel_rfl) (by kernel_rfl) (fun d v c a w h => h) (by assumption) ⟨?_, ?_, ?_, Or.inl ⟨?_, ?_⟩, ?_⟩
                    rotate_left
                    · simp only [List.getElem?_toArray, List.getElem?_cons_zero, List.getElem?_cons_succ]; rfl
                    rotate_left
                    · rfl
                    · intro w hSw; (try dsimp only at hSw); go_simp; try (with_reducible rfl)
                    simp only [Act.put, List.setIfInBounds_toArray, List.set_cons_zero, List.set_cons_succ]
                    as_aux_lemma =>
                      refine wpAnyH_ready (rs := [10]) (by kernel_rfl) (by simp) ?_
                      refine AllReadyH.cons1 ⟨?_, ?_, fun K hK => ?_⟩ ?_
                      rotate_left
                      · simp only [List.getElem?_toArray, List.getElem?_cons_zero, List.getElem?_cons_succ]; rfl
                      · rw [if_pos (by rfl)]
                        go_simp
                        refine hK.out _ _ (KS.out _ (below_alloc hHeld.2 (.cells #[.slice none 0 0, .int .i64 0, .bool false] 32))) (fun hHeld => ?_)
                        clear hK K
                        try simp only [Act.put, List.setIfInBounds_toArray, List.set_cons_zero, List.set_cons_succ]
                        as_aux_lemma =>
                          have hbl8 := hHeld.2
                          refine wpAnyH_oneL 11 #[true, true, true, true, true, true, true, true, true, true, true, true, false] (by kernel_rfl) (by kernel_rfl) ⟨?_, ?_, fun K hK => ?_⟩
                          rotate_left
                          · simp only [List.getElem?_toArray, List.getElem?_cons_zero, List.getElem?_cons_succ]; rfl
                          rw [if_pos (by rfl)]
                          go_simp
                          have hk9 := hk8.below (below_alloc (Below.refl _ w8) (.cells #[.slice A3 ks3.length c3, .int .i64 (neverF (R ++ [r])).1, .bool (neverF (R ++ [r])).2] 32))
                          have hx9 := heap_alloc_new w8 (.cells #[.slice A3 ks3.length c3, .int .i64 (neverF (R ++ [r])).1, .bool (neverF (R ++ [r])).2] 32)
                          have hbl9 : Below W5.heap.size W5 (w8.alloc (.cells #[.slice A3 ks3.length c3, .int .i64 (neverF (R ++ [r])).1, .bool (neverF (R ++ [r])).2] 32)) := below_alloc (un_alloc hbl8 hsz8) _
                          refine hK.out _ _ (KS.out _ hbl9) (fun hHeld => ?_)
                          generalize w8.alloc (.cells #[.slice A3 ks3.length c3, .int .i64 (neverF (R ++ [r])).1, .bool (neverF (R ++ [r])).2] 32) = W9 at *
                          generalize w8.heap.size = q2 at *
                          clear hK K
                          try simp only [Act.put, List.setIfInBounds_toArray, List.set_cons_zero, List.set_cons_succ]
                          refine wpAnyH_takeL 12 #[true, true, true, true, true, true, true, true, true, true, true, true, true] (by kernel_rfl) (by kernel_rfl) (by kernel_rfl) (by kernel_rfl) (fun d v c a w h => h) (by assumption) ⟨?_, ?_, ?_, Or.inl ⟨?_, ?_⟩, ?_⟩
                          rotate_left
                          · simp only [List.getElem?_toArray, List.getElem?_cons_zero, List.getElem?_cons_succ]; rfl
                          rotate_left
                          · rfl
                          · intro w hSw; (try dsimp only at hSw); go_simp; try (with_reducible rfl)
                          simp only [Act.put, List.setIfInBounds_toArray, List.set_cons_zero, List.set_cons_succ]
                          refine wpAnyH_done (by kernel_rfl) (NoPanic.normal ?_) _
                          as_aux_lemma =>
                            have hbw9 := Lib.hid (hbw5.out.trans (hbl9.mono hbw5.out.size))
                            have HKB := Lib.hid hk9
                            have HX9 := Lib.hid hx9
                            have HM8 := Lib.hid hm8
                            have HBL := Lib.hid hbl9
                            clear hk9 hx9 hm8 hbl9
                            go_upto_region 8 with (go_at_call 15; (with_reducible refine (made_calls (B := w.heap.size) (hS.out.below hbw9.out) hbw9.out.size hs.out h30).mono ?_); rintro e w10 ⟨b, gx, rfl, ⟨base, A4, c4, hl1, hl2, hl3, ht4⟩, hx4, hb10⟩; have hl1' := Nat.le_trans HBL.out.size hl1; have hl2' := Nat.le_trans HBL.out.size hl2; have hbb := HBL.out.trans (hb10.mono HBL.out.size); have BX := Lib.hid (bo_below bx5.out hbb); rw [← hW5] at hl1' hl2' hbb; have H1 := Lib.hid (lw_mk RT.out hb3.out hk4.out hm4.out hb4.out hl1' hl2' hl3 ⟨_, _, ht4⟩ hbb); have H2 := Lib.hid (lw_mk2 RT2.out HKB.out HM8.out HX9.out hbw9.out hl1 hl2 hl3 ⟨_, _, ht4⟩ hb10); clear hl1 hl2 hl3 ht4 hx4 hb10 hl1' hl2' hbb)
                            generalize mkM L L.length = M at *
                            have MH : MoreH w w10 R r M base b num w3.heap.size w4.heap.size A c ks _ q2 A3 c3 ks3 := ⟨H1.out, H2.out, BX.out, G.out, fun h => more_ge RT2.out h G.out num, fun h => more_never RT.out hrb.out h G.out num, minM_rng G.out num, rightB_f hrb.out⟩
                            clear HKB HX9 HM8 HBL hbw9 H1 H2 BX bx5 hb45 hbw5 KS RD C2 hz5 hS5 hW5 X4 RT RT2 hb3 hb4 hk4 hm4 hR hS hs hrb
                            generalize w4.heap.size = q1 at *
                            have T1 := Lib.hid MH.t1
                            have T2 := Lib.hid MH.t2
                            have MN := Lib.hid MH.mn
                            have hnv := MH.nv
                            have hgm := MH.ge
                            have hwr := MH.wr
                            have hrf := MH.rf
                            have hc10 := MH.cells
                            replace MH := Lib.hid MH
                            generalize tl R M num = x at *
                            generalize tl (R ++ [r]) M num = y at *
                            go_region_held3 (fun w' => (w'.cell? { block := q1, off := 0 } = some (.slice A ks.length c) ∧ w'.cell? { block := q1, off := 1 } = some (.int .i64 (neverF R).1) ∧ w'.cell? { block := q1, off := 2 } = some (.bool (neverF R).2)) ∧ w'.cell? { block := q2, off := 0 } = some (.slice A3 ks3.length c3) ∧ w'.cell? { block := q2, off := 1 } = some (.int .i64 (neverF (R ++ [r])).1) ∧ w'.cell? { block := q2, off := 2 } = some (.bool (neverF (R ++ [r])).2)) (first | exact hc10 | exact hc11 | exact hc12)
                              ((first
                                | (go_at_call 16
                                   (with_reducible refine (T1.out _ (MH.out.below (below_drew (Below.refl _ _)))).mono ?_)
                                   rintro e w11 ⟨rfl, hb11⟩
                                   have MH1 := Lib.hid (MH.out.below ((below_drew (Below.refl _ _)).trans hb11))
                                   have hc11 := MH1.out.cells
                                   clear hb11)
                                | (go_at_call 16
                                   (with_reducible refine (T2.out _ MH1.out).mono ?_)
                                   rintro e w12 ⟨rfl, hb12⟩
                                   have MH2 := Lib.hid (MH1.out.below hb12)
                                   have hc12 := MH2.out.cells
                                   clear hb12)))
                            have hbx := MH2.out.bx.cells
                            clear MH MH1 hc10 hc11 T1 T2
                            have d1 : IntKind.i64.wrap (minM M num + r.f) = minM M num + r.f := IntWalk.i64_in _ (by omega)
                            have d2 : wrap64 (minM M num + r.f) = minM M num + r.f := (i64_w _).symm.trans d1
                            generalize minM M num = m at *
                            by_cases hk : r.k = 4
                            · have q4 : (r.k == 4) = true := beq_iff_eq.2 hk
                              obtain ⟨n1, n2⟩ := hnv hk
                              have q5 : decide (y ≤ x) = true := decide_eq_true n1
                              clear hk hgm hnv
                              cases hh : hit M num with
                              | false =>
                                rw [hh] at MN
                                clear hh n2
                                go_wp2_with (go_at_call 17; (with_reducible refine (MN.out _ MH2.out).mono ?_); rintro e w13 ⟨rfl, hb13⟩; have MH3 := Lib.hid (MH2.out.below hb13); have hbx3 := MH3.out.bx.cells; clear hb13)
                                go_ret
                                exact ⟨rfl, MH3.out.a.kt.bel⟩
                              | true =>
                                rw [hh] at MN
                                obtain ⟨n3, n4⟩ := n2 hh
                                have q6 : decide (y ≤ m + r.f) = true := decide_eq_true n3
                                clear hh n2
                                by_cases hxy : y = x
                                · have q7 : (y == x) = true := beq_iff_eq.2 hxy
                                  clear hxy n4
                                  go_wp2_with (go_at_call 17; (with_reducible refine (MN.out _ MH2.out).mono ?_); rintro e w13 ⟨rfl, hb13⟩; have MH3 := Lib.hid (MH2.out.below hb13); have hbx3 := MH3.out.bx.cells; clear hb13)
                                  go_ret
                                  exact ⟨rfl, MH3.out.a.kt.bel⟩
                                · have q7 : (y == x) = false := beq_eq_false_iff_ne.2 hxy
                                  have q8 : (y == m + r.f) = true := beq_iff_eq.2 (n4.resolve_left hxy)
                                  clear hxy n4
                                  go_wp2_with (go_at_call 17; (with_reducible refine (MN.out _ MH2.out).mono ?_); rintro e w13 ⟨rfl, hb13⟩; have MH3 := Lib.hid (MH2.out.below hb13); have hbx3 := MH3.out.bx.cells; clear hb13)
                                  go_ret
                                  exact ⟨rfl, MH3.out.a.kt.bel⟩
                            · have q4 : (r.k == 4) = false := beq_eq_false_iff_ne.2 hk
                              have q5 : decide (x ≤ y) = true := decide_eq_true (hgm hk)
                              clear hgm hnv hk
                              go_wp2
                              go_ret
                              exact ⟨rfl, MH2.out.a.kt.bel⟩
                      exact AllReadyH.nil
                  refine AllReadyH.cons1 ⟨?_, ?_, fun K hK => ?_⟩ ?_
                  rotate_left
                  · simp only [List.getElem?_toArray, List.getElem?_cons_zero, List.getElem?_cons_succ]; rfl
                  · rw [if_pos (by rfl)]
                    go_simp
                    refine hK.out _ _ (KS.out _ (below_alloc hHeld.2 (.cells #[.slice none 0 0, .int .i64 0, .bool false] 32))) (fun hHeld => ?_)
                    clear hK K
                    try simp only [Act.put, List.setIfInBounds_toArray, List.set_cons_zero, List.set_cons_succ]
                    as_aux_lemma =>
                      refine wpAnyH_ready (rs := [6]) (by kernel_rfl) (by simp) ?_
                      refine AllReadyH.cons1 ⟨?_, ?_, fun K hK => ?_⟩ ?_
                      rotate_left
                      · simp only [List.getElem?_toArray, List.getElem?_cons_zero, List.getElem?_cons_succ]; rfl
                      · rw [if_pos (by rfl)]
                        go_simp
                        go_at_call 14; (with_reducible refine (C2.out _ _ _ (World.ownsRow.alloc ho2 (.cells #[.slice none 0 0, .int .i64 0, .bool false] 32))).mono ?_); rintro e w8 ⟨A3, c3, ks3, rfl, hk8, hm8, hb8⟩
                        have hsz8 := Nat.le_trans hHeld.2.size hb8.size
                        have hzf := (hb8.block _ (lt_heap (heap_alloc_new w7 (.cells #[.slice none 0 0, .int .i64 0, .bool false] 32)))).trans (heap_alloc_new w7 (.cells #[.slice none 0 0, .int .i64 0, .bool false] 32))
                        refine hK.out _ _ (KS.out _ (hHeld.2.trans (hb8.mono hHeld.2.size))) (fun hHeld => ?_)
                        clear hK K
                        try simp only [Act.put, List.setIfInBounds_toArray, List.set_cons_zero, List.set_cons_succ]
                        refine wpAnyH_takeL 7 #[true, true, true, true, true, true, true, true, false, false, true, false, false] (by kernel_rfl) (by kernel_rfl) (by kernel_rfl) (by kernel_rfl) (fun d v c a w h => h) (by assumption) ⟨?_, ?_, ?_, Or.inl ⟨?_, ?_⟩, ?_⟩
                        rotate_left
                        · simp only [List.getElem?_toArray, List.getElem?_cons_zero, List.getElem?_cons_succ]; rfl
                        rotate_left
                        · rfl
                        · intro w hSw; (try dsimp only at hSw); go_simp; try (with_reducible rfl)
                        simp only [Act.put, List.setIfInBounds_toArray, List.set_cons_zero, List.set_cons_succ]
                        refine wpAnyH_takeL 8 #[true, true, true, true, true, true, true, true, true, false, true, false, false] (by kernel_rfl) (by kernel_rfl) (by kernel_rfl) (by kernel_rfl) (fun d v c a w h => h) (by assumption) ⟨?_, ?_, ?_, Or.inl ⟨?_, ?_⟩, ?_⟩
                        rotate_left
                        · simp only [List.getElem?_toArray, List.getElem?_cons_zero, List.getElem?_cons_succ]; rfl
                        rotate_left
                        · rfl
                        · intro w hSw; (try dsimp only at hSw); go_simp; try (with_reducible rfl)
                        simp only [Act.put, List.setIfInBounds_toArray, List.set_cons_zero, List.set_cons_succ]
                        refine wpAnyH_takeL 9 #[true, true, true, true, true, true, true, true, true, true, true, false, false] (by kernel_rfl) (by kernel_rfl) (by kernel_rfl) (by kernel_rfl) (fun d v c a w h => h) (by assumption) ⟨?_, ?_, ?_, Or.inl ⟨?_, ?_⟩, ?_⟩
                        rotate_left
                        · simp only [List.getElem?_toArray, List.getElem?_cons_zero, List.getElem?_cons_succ]; rfl
                        rotate_left
                        · rfl
                        · intro w hSw; (try dsimp only at hSw); go_simp; try (with_reducible rfl)
                        simp only [Act.put, List.setIfInBounds_toArray, List.set_cons_zero, List.set_cons_succ]
                        as_aux_lemma =>
                          have hbl8 := hHeld.2
                          refine wpAnyH_oneL 11 #[true, true, true, true, true, true, true, true, true, true, true, true, false] (by kernel_rfl) (by kernel_rfl) ⟨?_, ?_, fun K hK => ?_⟩
                          rotate_left
                          · simp only [List.getElem?_toArray, List.getElem?_cons_zero, List.getElem?_cons_succ]; rfl
                          have z0 := cell_of_row _ _ 0 _ _ (0, 0) hzf
                          have z1 := cell_of_row _ _ 1 _ _ (0, 0) hzf
                          have z2 := cell_of_row _ _ 2 _ _ (0, 0) hzf
                          have y0 := frozen_of_row _ _ 0 _ _ hzf
                          have y1 := frozen_of_row _ _ 1 _ _ hzf
                          have y2 := frozen_of_row _ _ 2 _ _ hzf
                          simp only [List.size_toArray, List.getElem?_toArray, List.getElem?_cons_zero, List.getElem?_cons_succ] at z0 z1 z2
                          rw [if_pos (by rfl)]
                          go_simp
                          have hx9 := zset hzf (.slice A3 ks3.length c3) (.int .i64 (neverF (R ++ [r])).1) (.bool (neverF (R ++ [r])).2)
                          have hk9 := hk8.chg hx9.2 (fun k cur hk e => by subst e; exact heap_ne hzf hk (by simp) rfl) (fun k cur hk e => by subst e; exact heap_ne hzf hk (by simp) rfl)
                          have hbl9 := hx9.2.below hbl8 hbl8.size (fun k e => by omega)
                          refine hK.out _ _ (KS.out _ hbl9) (fun hHeld => ?_)
                          replace hx9 := hx9.1
                          generalize World.setCell _ _ _ = W9 at *
                          clear hK K
                          try simp only [Act.put, List.setIfInBounds_toArray, List.set_cons_zero, List.set_cons_succ]
                          refine wpAnyH_takeL 12 #[true, true, true, true, true, true, true, true, true, true, true, true, true] (by kernel_rfl) (by kernel_rfl) (by kernel_rfl) (by kernel_rfl) (fun d v c a w h => h) (by assumption) ⟨?_, ?_, ?_, Or.inl ⟨?_, ?_⟩, ?_⟩
                          rotate_left
                          · simp only [List.getElem?_toArray, List.getElem?_cons_zero, List.getElem?_cons_succ]; rfl
                          rotate_left
                          · rfl
                          · intro w hSw; (try dsimp only at hSw); go_simp; try (with_reducible rfl)
                          simp only [Act.put, List.setIfInBounds_toArray, List.set_cons_zero, List.set_cons_succ]
                          refine wpAnyH_done (by kernel_rfl) (NoPanic.normal ?_) _
                          obtain ⟨q2, hq2⟩ : ∃ q2, q2 = w7.heap.size := ⟨_, rfl⟩
                          rw [← hq2] at hx9 ⊢
                          clear hq2
                          as_aux_lemma =>
                            have hbw9 := Lib.hid (hbw5.out.trans (hbl9.mono hbw5.out.size))
                            have HKB := Lib.hid hk9
                            have HX9 := Lib.hid hx9
                            have HM8 := Lib.hid hm8
                            have HBL := Lib.hid hbl9
                            clear hk9 hx9 hm8 hbl9
                            go_upto_region 8 with (go_at_call 15; (with_reducible refine (made_calls (B := w.heap.size) (hS.out.below hbw9.out) hbw9.out.size hs.out h30).mono ?_); rintro e w10 ⟨b, gx, rfl, ⟨base, A4, c4, hl1, hl2, hl3, ht4⟩, hx4, hb10⟩; have hl1' := Nat.le_trans HBL.out.size hl1; have hl2' := Nat.le_trans HBL.out.size hl2; have hbb := HBL.out.trans (hb10.mono HBL.out.size); have BX := Lib.hid (bo_below bx5.out hbb); rw [← hW5] at hl1' hl2' hbb; have H1 := Lib.hid (lw_mk RT.out hb3.out hk4.out hm4.out hb4.out hl1' hl2' hl3 ⟨_, _, ht4⟩ hbb); have H2 := Lib.hid (lw_mk2 RT2.out HKB.out HM8.out HX9.out hbw9.out hl1 hl2 hl3 ⟨_, _, ht4⟩ hb10); clear hl1 hl2 hl3 ht4 hx4 hb10 hl1' hl2' hbb)
                            generalize mkM L L.length = M at *
                            have MH : MoreH w w10 R r M base b num w3.heap.size w4.heap.size A c ks _ q2 A3 c3 ks3 := ⟨H1.out, H2.out, BX.out, G.out, fun h => more_ge RT2.out h G.out num, fun h => more_never RT.out hrb.out h G.out num, minM_rng G.out num, rightB_f hrb.out⟩
                            clear HKB HX9 HM8 HBL hbw9 H1 H2 BX bx5 hb45 hbw5 KS RD C2 hz5 hS5 hW5 X4 RT RT2 hb3 hb4 hk4 hm4 hR hS hs hrb
                            generalize w4.heap.size = q1 at *
                            have T1 := Lib.hid MH.t1
                            have T2 := Lib.hid MH.t2
                            have MN := Lib.hid MH.mn
                            have hnv := MH.nv
                            have hgm := MH.ge
                            have hwr := MH.wr
                            have hrf := MH.rf
                            have hc10 := MH.cells
                            replace MH := Lib.hid MH
                            generalize tl R M num = x at *
                            generalize tl (R ++ [r]) M num = y at *
                            go_region_held3 (fun w' => (w'.cell? { block := q1, off := 0 } = some (.slice A ks.length c) ∧ w'.cell? { block := q1, off := 1 } = some (.int .i64 (neverF R).1) ∧ w'.cell? { block := q1, off := 2 } = some (.bool (neverF R).2)) ∧ w'.cell? { block := q2, off := 0 } = some (.slice A3 ks3.length c3) ∧ w'.cell? { block := q2, off := 1 } = some (.int .i64 (neverF (R ++ [r])).1) ∧ w'.cell? { block := q2, off := 2 } = some (.bool (neverF (R ++ [r])).2)) (first | exact hc10 | exact hc11 | exact hc12)
                              ((first
                                | (go_at_call 16
                                   (with_reducible refine (T1.out _ (MH.out.below (below_drew (Below.refl _ _)))).mono ?_)
                                   rintro e w11 ⟨rfl, hb11⟩
                                   have MH1 := Lib.hid (MH.out.below ((below_drew (Below.refl _ _)).trans hb11))
                                   have hc11 := MH1.out.cells
                                   clear hb11)
                                | (go_at_call 16
                                   (with_reducible refine (T2.out _ MH1.out).mono ?_)
                                   rintro e w12 ⟨rfl, hb12⟩
                                   have MH2 := Lib.hid (MH1.out.below hb12)
                                   have hc12 := MH2.out.cells
                                   clear hb12)))
                            have hbx := MH2.out.bx.cells
                            clear MH MH1 hc10 hc11 T1 T2
                            have d1 : IntKind.i64.wrap (minM M num + r.f) = minM M num + r.f := IntWalk.i64_in _ (by omega)
                            have d2 : wrap64 (minM M num + r.f) = minM M num + r.f := (i64_w _).symm.trans d1
                            generalize minM M num = m at *
                            by_cases hk : r.k = 4
                            · have q4 : (r.k == 4) = true := beq_iff_eq.2 hk
                              obtain ⟨n1, n2⟩ := hnv hk
                              have q5 : decide (y ≤ x) = true := decide_eq_true n1
                              clear hk hgm hnv
                              cases hh : hit M num with
                              | false =>
                                rw [hh] at MN
                                clear hh n2
                                go_wp2_with (go_at_call 17; (with_reducible refine (MN.out _ MH2.out).mono ?_); rintro e w13 ⟨rfl, hb13⟩; have MH3 := Lib.hid (MH2.out.below hb13); have hbx3 := MH3.out.bx.cells; clear hb13)
                                go_ret
                                exact ⟨rfl, MH3.out.a.kt.bel⟩
                              | true =>
                                rw [hh] at MN
                                obtain ⟨n3, n4⟩ := n2 hh
                                have q6 : decide (y ≤ m + r.f) = true := decide_eq_true n3
                                clear hh n2
                                by_cases hxy : y = x
                                · have q7 : (y == x) = true := beq_iff_eq.2 hxy
                                  clear hxy n4
                                  go_wp2_with (go_at_call 17; (with_reducible refine (MN.out _ MH2.out).mono ?_); rintro e w13 ⟨rfl, hb13⟩; have MH3 := Lib.hid (MH2.out.below hb13); have hbx3 := MH3.out.bx.cells; clear hb13)
                                  go_ret
                                  exact ⟨rfl, MH3.out.a.kt.bel⟩
                                · have q7 : (y == x) = false := beq_eq_false_iff_ne.2 hxy
                                  have q8 : (y == m + r.f) = true := beq_iff_eq.2 (n4.resolve_left hxy)
                                  clear hxy n4
                                  go_wp2_with (go_at_call 17; (with_reducible refine (MN.out _ MH2.out).mono ?_); rintro e w13 ⟨rfl, hb13⟩; have MH3 := Lib.hid (MH2.out.below hb13); have hbx3 := MH3.out.bx.cells; clear hb13)
                                  go_ret
                                  exact ⟨rfl, MH3.out.a.kt.bel⟩
                            · have q4 : (r.k == 4) = false := beq_eq_false_iff_ne.2 hk
                              have q5 : decide (x ≤ y) = true := decide_eq_true (hgm hk)
                              clear hgm hnv hk
                              go_wp2
                              go_ret
                              exact ⟨rfl, MH2.out.a.kt.bel⟩
                      exact AllReadyH.nil
                  exact AllReadyH.nil
              refine AllReadyH.cons1 ⟨?_, ?_, fun K hK => ?_⟩ ?_
              rotate_left
              · simp only [List.getElem?_toArray, List.getElem?_cons_zero, List.getElem?_cons_succ]; rfl
              · rw [if_pos (by rfl)]
                go_simp
                refine hK.out _ _ (KS.out _ (below_alloc hHeld.2 (.cells #[.slice none 0 0, .int .i64 0, .bool false] 32))) (fun hHeld => ?_)
                clear hK K
                try simp only [Act.put, List.setIfInBounds_toArray, List.set_cons_zero, List.set_cons_succ]
                as_aux_lemma =>
                  refine wpAnyH_ready (rs := [5]) (by kernel_rfl) (by simp) ?_
                  refine AllReadyH.cons1 ⟨?_, ?_, fun K hK => ?_⟩ ?_
                  rotate_left
                  · simp only [List.getElem?_toArray, List.getElem?_cons_zero, List.getElem?_cons_succ]; rfl
                  · have hbl := hHeld.2
                    refine step_append_any _ rfl (.tmp 47) (.tmp 49) 22 rfl W5.heap.size 24 ir _ 3 24 Try.underlying22 hir.out zr0 zr1 zr2 rfl (by decide) (.slice A1 R.length c1) R.length (rucs R) rfl (World.ownsRow.alloc ho1 (.cells #[.slice none 0 0, .int .i64 0, .bool false] 32)) _ _ 1 1 (ruc r) rfl (reads3 (blk_alloc' (o := .cells #[.slice none 0 0, .int .i64 0, .bool false] 32) hgc)) (by unfold ruc; simp [Value.oneCell']) hx0.out.2.1 hx0.out.2.2 hbl.size ?_
                    intro v2 w7 ho2 hg2 ha2
                    obtain ⟨A2, c2, rfl, hcap2⟩ := own_slice_cap ho2
                    have hb7 := hbl.grown hg2 hbl.size (own_base ho1)
                    have hz7 := hb7.size
                    have hzf := zkeep2 hg2 (World.ownsRow.alloc ho1 (.cells #[.slice none 0 0, .int .i64 0, .bool false] 32)) (heap_alloc_new w6 (.cells #[.slice none 0 0, .int .i64 0, .bool false] 32))
                    refine hK.out _ _ (KS.out _ hb7) (fun hHeld => ?_)
                    clear hK K
                    try simp only [Act.put, List.setIfInBounds_toArray, List.set_cons_zero, List.set_cons_succ]
                    as_aux_lemma =>
                      refine wpAnyH_ready (rs := [6]) (by kernel_rfl) (by simp) ?_
                      refine AllReadyH.cons1 ⟨?_, ?_, fun K hK => ?_⟩ ?_
                      rotate_left
                      · simp only [List.getElem?_toArray, List.getElem?_cons_zero, List.getElem?_cons_succ]; rfl
                      · rw [if_pos (by rfl)]
                        go_simp
                        go_at_call 14; (with_reducible refine (C2.out _ _ _ ho2).mono ?_); rintro e w8 ⟨A3, c3, ks3, rfl, hk8, hm8, hb8⟩
                        have hsz8 := Nat.le_trans hHeld.2.size hb8.size
                        have hzf := (hb8.block _ (lt_heap hzf)).trans hzf
                        refine hK.out _ _ (KS.out _ (hHeld.2.trans (hb8.mono hHeld.2.size))) (fun hHeld => ?_)
                        clear hK K
                        try simp only [Act.put, List.setIfInBounds_toArray, List.set_cons_zero, List.set_cons_succ]
                        refine wpAnyH_takeL 7 #[true, true, true, true, true, true, true, true, false, false, true, false, false] (by kernel_rfl) (by kernel_rfl) (by kernel_rfl) (by kernel_rfl) (fun d v c a w h => h) (by assumption) ⟨?_, ?_, ?_, Or.inl ⟨?_, ?_⟩, ?_⟩
                        rotate_left
                        · simp only [List.getElem?_toArray, List.getElem?_cons_zero, List.getElem?_cons_succ]; rfl
                        rotate_left
                        · rfl
                        · intro w hSw; (try dsimp only at hSw); go_simp; try (with_reducible rfl)
                        simp only [Act.put, List.setIfInBounds_toArray, List.set_cons_zero, List.set_cons_succ]
                        refine wpAnyH_takeL 8 #[true, true, true, true, true, true, true, true, true, false, true, false, false] (by kernel_rfl) (by kernel_rfl) (by kernel_rfl) (by kernel_rfl) (fun d v c a w h => h) (by assumption) ⟨?_, ?_, ?_, Or.inl ⟨?_, ?_⟩, ?_⟩
                        rotate_left
                        · simp only [List.getElem?_toArray, List.getElem?_cons_zero, List.getElem?_cons_succ]; rfl
                        rotate_left
                        · rfl
                        · intro w hSw; (try dsimp only at hSw); go_simp; try (with_reducible rfl)
                        simp only [Act.put, List.setIfInBounds_toArray, List.set_cons_zero, List.set_cons_succ]
                        refine wpAnyH_takeL 9 #[true, true, true, true, true, true, true, true, true, true, true, false, false] (by kernel_rfl) (by kernel_rfl) (by kernel_rfl) (by kernel_rfl) (fun d v c a w h => h) (by assumption) ⟨?_, ?_, ?_, Or.inl ⟨?_, ?_⟩, ?_⟩
                        rotate_left
                        · simp only [List.getElem?_toArray, List.getElem?_cons_zero, List.getElem?_cons_succ]; rfl
                        rotate_left
                        · rfl
                        · intro w hSw; (try dsimp only at hSw); go_simp; try (with_reducible rfl)
                        simp only [Act.put, List.setIfInBounds_toArray, List.set_cons_zero, List.set_cons_succ]
                        as_aux_lemma =>
                          have hbl8 := hHeld.2
                          refine wpAnyH_oneL 11 #[true, true, true, true, true, true, true, true, true, true, true, true, false] (by kernel_rfl) (by kernel_rfl) ⟨?_, ?_, fun K hK => ?_⟩
                          rotate_left
                          · simp only [List.getElem?_toArray, List.getElem?_cons_zero, List.getElem?_cons_succ]; rfl
                          have z0 := cell_of_row _ _ 0 _ _ (0, 0) hzf
                          have z1 := cell_of_row _ _ 1 _ _ (0, 0) hzf
                          have z2 := cell_of_row _ _ 2 _ _ (0, 0) hzf
                          have y0 := frozen_of_row _ _ 0 _ _ hzf
                          have y1 := frozen_of_row _ _ 1 _ _ hzf
                          have y2 := frozen_of_row _ _ 2 _ _ hzf
                          simp only [List.size_toArray, List.getElem?_toArray, List.getElem?_cons_zero, List.getElem?_cons_succ] at z0 z1 z2
                          rw [if_pos (by rfl)]
                          go_simp
                          have hx9 := zset hzf (.slice A3 ks3.length c3) (.int .i64 (neverF (R ++ [r])).1) (.bool (neverF (R ++ [r])).2)
                          have hk9 := hk8.chg hx9.2 (fun k cur hk e => by subst e; exact heap_ne hzf hk (by simp) rfl) (fun k cur hk e => by subst e; exact heap_ne hzf hk (by simp) rfl)
                          have hbl9 := hx9.2.below hbl8 hbl8.size (fun k e => by omega)
                          refine hK.out _ _ (KS.out _ hbl9) (fun hHeld => ?_)
                          replace hx9 := hx9.1
                          generalize World.setCell _ _ _ = W9 at *
                          clear hK K
                          try simp only [Act.put, List.setIfInBounds_toArray, List.set_cons_zero, List.set_cons_succ]
                          refine wpAnyH_takeL 12 #[true, true, true, true, true, true, true, true, true, true, true, true, true] (by kernel_rfl) (by kernel_rfl) (by kernel_rfl) (by kernel_rfl) (fun d v c a w h => h) (by assumption) ⟨?_, ?_, ?_, Or.inl ⟨?_, ?_⟩, ?_⟩
                          rotate_left
                          · simp only [List.getElem?_toArray, List.getElem?_cons_zero, List.getElem?_cons_succ]; rfl
                          rotate_left
                          · rfl
                          · intro w hSw; (try dsimp only at hSw); go_simp; try (with_reducible rfl)
                          simp only [Act.put, List.setIfInBounds_toArray, List.set_cons_zero, List.set_cons_succ]
                          refine wpAnyH_done (by kernel_rfl) (NoPanic.normal ?_) _
                          obtain ⟨q2, hq2⟩ : ∃ q2, q2 = w6.heap.size := ⟨_, rfl⟩
                          rw [← hq2] at hx9 ⊢
                          clear hq2
                          as_aux_lemma =>
                            have hbw9 := Lib.hid (hbw5.out.trans (hbl9.mono hbw5.out.size))
                            have HKB := Lib.hid hk9
                            have HX9 := Lib.hid hx9
                            have HM8 := Lib.hid hm8
                            have HBL := Lib.hid hbl9
                            clear hk9 hx9 hm8 hbl9
                            go_upto_region 8 with (go_at_call 15; (with_reducible refine (made_calls (B := w.heap.size) (hS.out.below hbw9.out) hbw9.out.size hs.out h30).mono ?_); rintro e w10 ⟨b, gx, rfl, ⟨base, A4, c4, hl1, hl2, hl3, ht4⟩, hx4, hb10⟩; have hl1' := Nat.le_trans HBL.out.size hl1; have hl2' := Nat.le_trans HBL.out.size hl2; have hbb := HBL.out.trans (hb10.mono HBL.out.size); have BX := Lib.hid (bo_below bx5.out hbb); rw [← hW5] at hl1' hl2' hbb; have H1 := Lib.hid (lw_mk RT.out hb3.out hk4.out hm4.out hb4.out hl1' hl2' hl3 ⟨_, _, ht4⟩ hbb); have H2 := Lib.hid (lw_mk2 RT2.out HKB.out HM8.out HX9.out hbw9.out hl1 hl2 hl3 ⟨_, _, ht4⟩ hb10); clear hl1 hl2 hl3 ht4 hx4 hb10 hl1' hl2' hbb)
                            generalize mkM L L.length = M at *
                            have MH : MoreH w w10 R r M base b num w3.heap.size w4.heap.size A c ks _ q2 A3 c3 ks3 := ⟨H1.out, H2.out, BX.out, G.out, fun h => more_ge RT2.out h G.out num, fun h => more_never RT.out hrb.out h G.out num, minM_rng G.out num, rightB_f hrb.out⟩
                            clear HKB HX9 HM8 HBL hbw9 H1 H2 BX bx5 hb45 hbw5 KS RD C2 hz5 hS5 hW5 X4 RT RT2 hb3 hb4 hk4 hm4 hR hS hs hrb
                            generalize w4.heap.size = q1 at *
                            have T1 := Lib.hid MH.t1
                            have T2 := Lib.hid MH.t2
                            have MN := Lib.hid MH.mn
                            have hnv := MH.nv
                            have hgm := MH.ge
                            have hwr := MH.wr
                            have hrf := MH.rf
                            have hc10 := MH.cells
                            replace MH := Lib.hid MH
                            generalize tl R M num = x at *
                            generalize tl (R ++ [r]) M num = y at *
                            go_region_held3 (fun w' => (w'.cell? { block := q1, off := 0 } = some (.slice A ks.length c) ∧ w'.cell? { block := q1, off := 1 } = some (.int .i64 (neverF R).1) ∧ w'.cell? { block := q1, off := 2 } = some (.bool (neverF R).2)) ∧ w'.cell? { block := q2, off := 0 } = some (.slice A3 ks3.length c3) ∧ w'.cell? { block := q2, off := 1 } = some (.int .i64 (neverF (R ++ [r])).1) ∧ w'.cell? { block := q2, off := 2 } = some (.bool (neverF (R ++ [r])).2)) (first | exact hc10 | exact hc11 | exact hc12)
                              ((first
                                | (go_at_call 16
                                   (with_reducible refine (T1.out _ (MH.out.below (below_drew (Below.refl _ _)))).mono ?_)
                                   rintro e w11 ⟨rfl, hb11⟩
                                   have MH1 := Lib.hid (MH.out.below ((below_drew (Below.refl _ _)).trans hb11))
                                   have hc11 := MH1.out.cells
                                   clear hb11)
                                | (go_at_call 16
                                   (with_reducible refine (T2.out _ MH1.out).mono ?_)
                                   rintro e w12 ⟨rfl, hb12⟩
                                   have MH2 := Lib.hid (MH1.out.below hb12)
                                   have hc12 := MH2.out.cells
                                   clear hb12)))
                            have hbx := MH2.out.bx.cells
                            clear MH MH1 hc10 hc11 T1 T2
                            have d1 : IntKind.i64.wrap (minM M num + r.f) = minM M num + r.f := IntWalk.i64_in _ (by omega)
                            have d2 : wrap64 (minM M num + r.f) = minM M num + r.f := (i64_w _).symm.trans d1
                            generalize minM M num = m at *
                            by_cases hk : r.k = 4
                            · have q4 : (r.k == 4) = true := beq_iff_eq.2 hk
                              obtain ⟨n1, n2⟩ := hnv hk
                              have q5 : decide (y ≤ x) = true := decide_eq_true n1
                              clear hk hgm hnv
                              cases hh : hit M num with
                              | false =>
                                rw [hh] at MN
                                clear hh n2
                                go_wp2_with (go_at_call 17; (with_reducible refine (MN.out _ MH2.out).mono ?_); rintro e w13 ⟨rfl, hb13⟩; have MH3 := Lib.hid (MH2.out.below hb13); have hbx3 := MH3.out.bx.cells; clear hb13)
                                go_ret
                                exact ⟨rfl, MH3.out.a.kt.bel⟩
                              | true =>
                                rw [hh] at MN
                                obtain ⟨n3, n4⟩ := n2 hh
                                have q6 : decide (y ≤ m + r.f) = true := decide_eq_true n3
                                clear hh n2
                                by_cases hxy : y = x
                                · have q7 : (y == x) = true := beq_iff_eq.2 hxy
                                  clear hxy n4
                                  go_wp2_with (go_at_call 17; (with_reducible refine (MN.out _ MH2.out).mono ?_); rintro e w13 ⟨rfl, hb13⟩; have MH3 := Lib.hid (MH2.out.below hb13); have hbx3 := MH3.out.bx.cells; clear hb13)
                                  go_ret
                                  exact ⟨rfl, MH3.out.a.kt.bel⟩
                                · have q7 : (y == x) = false := beq_eq_false_iff_ne.2 hxy
                                  have q8 : (y == m + r.f) = true := beq_iff_eq.2 (n4.resolve_left hxy)
                                  clear hxy n4
                                  go_wp2_with (go_at_call 17; (with_reducible refine (MN.out _ MH2.out).mono ?_); rintro e w13 ⟨rfl, hb13⟩; have MH3 := Lib.hid (MH2.out.below hb13); have hbx3 := MH3.out.bx.cells; clear hb13)
                                  go_ret
                                  exact ⟨rfl, MH3.out.a.kt.bel⟩
                            · have q4 : (r.k == 4) = false := beq_eq_false_iff_ne.2 hk
                              have q5 : decide (x ≤ y) = true := decide_eq_true (hgm hk)
                              clear hgm hnv hk
                              go_wp2
                              go_ret
                              exact ⟨rfl, MH2.out.a.kt.bel⟩
                      exact AllReadyH.nil
                  exact AllReadyH.nil
              exact AllReadyH.nil
          refine AllReadyH.cons1 ⟨?_, ?_, fun K hK => ?_⟩ ?_
          rotate_left
          · simp only [List.getElem?_toArray, List.getElem?_cons_zero, List.getElem?_cons_succ]; rfl
          · rw [if_pos (by rfl)]
            go_simp
            refine hK.out _ _ (KS.out _ (below_alloc hHeld.2 (.cells #[.slice none 0 0, .int .i64 0, .bool false] 32))) (fun hHeld => ?_)
            clear hK K
            try simp only [Act.put, List.setIfInBounds_toArray, List.set_cons_zero, List.set_cons_succ]
            as_aux_lemma =>
              refine wpAnyH_ready (rs := [2]) (by kernel_rfl) (by simp) ?_
              refine AllReadyH.cons1 ⟨?_, ?_, fun K hK => ?_⟩ ?_
              rotate_left
              · simp only [List.getElem?_toArray, List.getElem?_cons_zero, List.getElem?_cons_succ]; rfl
              · have hbl := hHeld.2
                have hga := (hn31 W5 (.cells #[] 24) (.cells #[.int .i64 r.k, .int .i64 r.l, .int .i64 r.f] 24) (.cells #[.slice none 0 0, .int .i64 0, .bool false] 32))
                refine step_append_any _ rfl (.tmp 45) (.tmp 46) 22 rfl W5.heap.size 24 ir _ 3 24 Try.underlying22 hir.out zr0 zr1 zr2 rfl (by decide) (.slice (some ⟨W5.heap.size, 0, none⟩) 0 0) 0 [] rfl (own_e hga (by omega)) _ A0 R.length c0 (rucs R) rfl (RD.out _ hbl) (rucs_one R) hx0.out.1.1 hx0.out.1.2 hbl.size ?_
                intro v1 w6 ho1 hg1 ha1
                rw [Nat.zero_add, List.nil_append] at ho1
                obtain ⟨A1, c1, rfl, hcap1⟩ := own_slice_cap ho1
                have hb6 := hbl.grown hg1 hbl.size (fun k e => by simp [Value.ownBlock] at e; omega)
                have hgc := (hg1.block _ (lt_heap ((hn32 W5 (.cells #[] 24) (.cells #[.int .i64 r.k, .int .i64 r.l, .int .i64 r.f] 24) (.cells #[.slice none 0 0, .int .i64 0, .bool false] 32)))) (by simp [Value.ownBlock] <;> omega)).trans ((hn32 W5 (.cells #[] 24) (.cells #[.int .i64 r.k, .int .i64 r.l, .int .i64 r.f] 24) (.cells #[.slice none 0 0, .int .i64 0, .bool false] 32)))
                have hz6 := hb6.size
                have hzf := zkeep2 hg1 (own_e hga (show W5.heap.size ≤ _ by omega)) (hn33 W5 (.cells #[] 24) (.cells #[.int .i64 r.k, .int .i64 r.l, .int .i64 r.f] 24) (.cells #[.slice none 0 0, .int .i64 0, .bool false] 32))
                refine hK.out _ _ (KS.out _ hb6) (fun hHeld => ?_)
                clear hK K
                try simp only [Act.put, List.setIfInBounds_toArray, List.set_cons_zero, List.set_cons_succ]
                as_aux_lemma =>
                  refine wpAnyH_ready (rs := [5]) (by kernel_rfl) (by simp) ?_
                  refine AllReadyH.cons1 ⟨?_, ?_, fun K hK => ?_⟩ ?_
                  rotate_left
                  · simp only [List.getElem?_toArray, List.getElem?_cons_zero, List.getElem?_cons_succ]; rfl
                  · have hbl := hHeld.2
                    refine step_append_any _ rfl (.tmp 47) (.tmp 49) 22 rfl W5.heap.size 24 ir _ 3 24 Try.underlying22 hir.out zr0 zr1 zr2 rfl (by decide) (.slice A1 R.length c1) R.length (rucs R) rfl ho1 _ _ 1 1 (ruc r) rfl (reads3 hgc) (by unfold ruc; simp [Value.oneCell']) hx0.out.2.1 hx0.out.2.2 hbl.size ?_
                    intro v2 w7 ho2 hg2 ha2
                    obtain ⟨A2, c2, rfl, hcap2⟩ := own_slice_cap ho2
                    have hb7 := hbl.grown hg2 hbl.size (own_base ho1)
                    have hz7 := hb7.size
                    have hzf := zkeep2 hg2 ho1 hzf
                    refine hK.out _ _ (KS.out _ hb7) (fun hHeld => ?_)
                    clear hK K
                    try simp only [Act.put, List.setIfInBounds_toArray, List.set_cons_zero, List.set_cons_succ]
                    as_aux_lemma =>
                      refine wpAnyH_ready (rs := [6]) (by kernel_rfl) (by simp) ?_
                      refine AllReadyH.cons1 ⟨?_, ?_, fun K hK => ?_⟩ ?_
                      rotate_left
                      · simp only [List.getElem?_toArray, List.getElem?_cons_zero, List.getElem?_cons_succ]; rfl
                      · rw [if_pos (by rfl)]
                        go_simp
                        go_at_call 14; (with_reducible refine (C2.out _ _ _ ho2).mono ?_); rintro e w8 ⟨A3, c3, ks3, rfl, hk8, hm8, hb8⟩
                        have hsz8 := Nat.le_trans hHeld.2.size hb8.size
                        have hzf := (hb8.block _ (lt_heap hzf)).trans hzf
                        refine hK.out _ _ (KS.out _ (hHeld.2.trans (hb8.mono hHeld.2.size))) (fun hHeld => ?_)
                        clear hK K
                        try simp only [Act.put, List.setIfInBounds_toArray, List.set_cons_zero, List.set_cons_succ]
                        refine wpAnyH_takeL 7 #[true, true, true, true, true, true, true, true, false, false, true, false, false] (by kernel_rfl) (by kernel_rfl) (by kernel_rfl) (by kernel_rfl) (fun d v c a w h => h) (by assumption) ⟨?_, ?_, ?_, Or.inl ⟨?_, ?_⟩, ?_⟩
                        rotate_left
                        · simp only [List.getElem?_toArray, List.getElem?_cons_zero, List.getElem?_cons_succ]; rfl
                        rotate_left
                        · rfl
                        · intro w hSw; (try dsimp only at hSw); go_simp; try (with_reducible rfl)
                        simp only [Act.put, List.setIfInBounds_toArray, List.set_cons_zero, List.set_cons_succ]
                        refine wpAnyH_takeL 8 #[true, true, true, true, true, true, true, true, true, false, true, false, false] (by kernel_rfl) (by kernel_rfl) (by kernel_rfl) (by kernel_rfl) (fun d v c a w h => h) (by assumption) ⟨?_, ?_, ?_, Or.inl ⟨?_, ?_⟩, ?_⟩
                        rotate_left
                        · simp only [List.getElem?_toArray, List.getElem?_cons_zero, List.getElem?_cons_succ]; rfl
                        rotate_left
                        · rfl
                        · intro w hSw; (try dsimp only at hSw); go_simp; try (with_reducible rfl)
                        simp only [Act.put, List.setIfInBounds_toArray, List.set_cons_zero, List.set_cons_succ]
                        refine wpAnyH_takeL 9 #[true, true, true, true, true, true, true, true, true, true, true, false, false] (by kernel_rfl) (by kernel_rfl) (by kernel_rfl) (by kernel_rfl) (fun d v c a w h => h) (by assumption) ⟨?_, ?_, ?_, Or.inl ⟨?_, ?_⟩, ?_⟩
                        rotate_left
                        · simp only [List.getElem?_toArray, List.getElem?_cons_zero, List.getElem?_cons_succ]; rfl
                        rotate_left
                        · rfl
                        · intro w hSw; (try dsimp only at hSw); go_simp; try (with_reducible rfl)
                        simp only [Act.put, List.setIfInBounds_toArray, List.set_cons_zero, List.set_cons_succ]
                        as_aux_lemma =>
                          have hbl8 := hHeld.2
                          refine wpAnyH_oneL 11 #[true, true, true, true, true, true, true, true, true, true, true, true, false] (by kernel_rfl) (by kernel_rfl) ⟨?_, ?_, fun K hK => ?_⟩
                          rotate_left
                          · simp only [List.getElem?_toArray, List.getElem?_cons_zero, List.getElem?_cons_succ]; rfl
                          have z0 := cell_of_row _ _ 0 _ _ (0, 0) hzf
                          have z1 := cell_of_row _ _ 1 _ _ (0, 0) hzf
                          have z2 := cell_of_row _ _ 2 _ _ (0, 0) hzf
                          have y0 := frozen_of_row _ _ 0 _ _ hzf
                          have y1 := frozen_of_row _ _ 1 _ _ hzf
                          have y2 := frozen_of_row _ _ 2 _ _ hzf
                          simp only [List.size_toArray, List.getElem?_toArray, List.getElem?_cons_zero, List.getElem?_cons_succ] at z0 z1 z2
                          rw [if_pos (by rfl)]
                          go_simp
                          have hx9 := zset hzf (.slice A3 ks3.length c3) (.int .i64 (neverF (R ++ [r])).1) (.bool (neverF (R ++ [r])).2)
                          have hk9 := hk8.chg hx9.2 (fun k cur hk e => by subst e; exact heap_ne hzf hk (by simp) rfl) (fun k cur hk e => by subst e; exact heap_ne hzf hk (by simp) rfl)
                          have hbl9 := hx9.2.below hbl8 hbl8.size (fun k e => by omega)
                          refine hK.out _ _ (KS.out _ hbl9) (fun hHeld => ?_)
                          replace hx9 := hx9.1
                          generalize World.setCell _ _ _ = W9 at *
                          clear hK K
                          try simp only [Act.put, List.setIfInBounds_toArray, List.set_cons_zero, List.set_cons_succ]
                          refine wpAnyH_takeL 12 #[true, true, true, true, true, true, true, true, true, true, true, true, true] (by kernel_rfl) (by kernel_rfl) (by kernel_rfl) (by kernel_rfl) (fun d v c a w h => h) (by assumption) ⟨?_, ?_, ?_, Or.inl ⟨?_, ?_⟩, ?_⟩
                          rotate_left
                          · simp only [List.getElem?_toArray, List.getElem?_cons_zero, List.getElem?_cons_succ]; rfl
                          rotate_left
                          · rfl
                          · intro w hSw; (try dsimp only at hSw); go_simp; try (with_reducible rfl)
                          simp only [Act.put, List.setIfInBounds_toArray, List.set_cons_zero, List.set_cons_succ]
                          refine wpAnyH_done (by kernel_rfl) (NoPanic.normal ?_) _
                          obtain ⟨q2, hq2⟩ : ∃ q2, q2 = W5.heap.size + 1 + 1 := ⟨_, rfl⟩
                          rw [← hq2] at hx9 ⊢
                          clear hq2
                          as_aux_lemma =>
                            have hbw9 := Lib.hid (hbw5.out.trans (hbl9.mono hbw5.out.size))
                            have HKB := Lib.hid hk9
                            have HX9 := Lib.hid hx9
                            have HM8 := Lib.hid hm8
                            have HBL := Lib.hid hbl9
                            clear hk9 hx9 hm8 hbl9
                            go_upto_region 8 with (go_at_call 15; (with_reducible refine (made_calls (B := w.heap.size) (hS.out.below hbw9.out) hbw9.out.size hs.out h30).mono ?_); rintro e w10 ⟨b, gx, rfl, ⟨base, A4, c4, hl1, hl2, hl3, ht4⟩, hx4, hb10⟩; have hl1' := Nat.le_trans HBL.out.size hl1; have hl2' := Nat.le_trans HBL.out.size hl2; have hbb := HBL.out.trans (hb10.mono HBL.out.size); have BX := Lib.hid (bo_below bx5.out hbb); rw [← hW5] at hl1' hl2' hbb; have H1 := Lib.hid (lw_mk RT.out hb3.out hk4.out hm4.out hb4.out hl1' hl2' hl3 ⟨_, _, ht4⟩ hbb); have H2 := Lib.hid (lw_mk2 RT2.out HKB.out HM8.out HX9.out hbw9.out hl1 hl2 hl3 ⟨_, _, ht4⟩ hb10); clear hl1 hl2 hl3 ht4 hx4 hb10 hl1' hl2' hbb)
                            generalize mkM L L.length = M at *
                            have MH : MoreH w w10 R r M base b num w3.heap.size w4.heap.size A c ks _ q2 A3 c3 ks3 := ⟨H1.out, H2.out, BX.out, G.out, fun h => more_ge RT2.out h G.out num, fun h => more_never RT.out hrb.out h G.out num, minM_rng G.out num, rightB_f hrb.out⟩
                            clear HKB HX9 HM8 HBL hbw9 H1 H2 BX bx5 hb45 hbw5 KS RD C2 hz5 hS5 hW5 X4 RT RT2 hb3 hb4 hk4 hm4 hR hS hs hrb
                            generalize w4.heap.size = q1 at *
                            have T1 := Lib.hid MH.t1
                            have T2 := Lib.hid MH.t2
                            have MN := Lib.hid MH.mn
                            have hnv := MH.nv
                            have hgm := MH.ge
                            have hwr := MH.wr
                            have hrf := MH.rf
                            have hc10 := MH.cells
                            replace MH := Lib.hid MH
                            generalize tl R M num = x at *
                            generalize tl (R ++ [r]) M num = y at *
                            go_region_held3 (fun w' => (w'.cell? { block := q1, off := 0 } = some (.slice A ks.length c) ∧ w'.cell? { block := q1, off := 1 } = some (.int .i64 (neverF R).1) ∧ w'.cell? { block := q1, off := 2 } = some (.bool (neverF R).2)) ∧ w'.cell? { block := q2, off := 0 } = some (.slice A3 ks3.length c3) ∧ w'.cell? { block := q2, off := 1 } = some (.int .i64 (neverF (R ++ [r])).1) ∧ w'.cell? { block := q2, off := 2 } = some (.bool (neverF (R ++ [r])).2)) (first | exact hc10 | exact hc11 | exact hc12)
                              ((first
                                | (go_at_call 16
                                   (with_reducible refine (T1.out _ (MH.out.below (below_drew (Below.refl _ _)))).mono ?_)
                                   rintro e w11 ⟨rfl, hb11⟩
                                   have MH1 := Lib.hid (MH.out.below ((below_drew (Below.refl _ _)).trans hb11))
                                   have hc11 := MH1.out.cells
                                   clear hb11)
                                | (go_at_call 16
                                   (with_reducible refine (T2.out _ MH1.out).mono ?_)
                                   rintro e w12 ⟨rfl, hb12⟩
                                   have MH2 := Lib.hid (MH1.out.below hb12)
                                   have hc12 := MH2.out.cells
                                   clear hb12)))
                            have hbx := MH2.out.bx.cells
                            clear MH MH1 hc10 hc11 T1 T2
                            have d1 : IntKind.i64.wrap (minM M num + r.f) = minM M num + r.f := IntWalk.i64_in _ (by omega)
                            have d2 : wrap64 (minM M num + r.f) = minM M num + r.f := (i64_w _).symm.trans d1
                            generalize minM M num = m at *
                            by_cases hk : r.k = 4
                            · have q4 : (r.k == 4) = true := beq_iff_eq.2 hk
                              obtain ⟨n1, n2⟩ := hnv hk
                              have q5 : decide (y ≤ x) = true := decide_eq_true n1
                              clear hk hgm hnv
                              cases hh : hit M num with
                              | false =>
                                rw [hh] at MN
                                clear hh n2
                                go_wp2_with (go_at_call 17; (with_reducible refine (MN.out _ MH2.out).mono ?_); rintro e w13 ⟨rfl, hb13⟩; have MH3 := Lib.hid (MH2.out.below hb13); have hbx3 := MH3.out.bx.cells; clear hb13)
                                go_ret
                                exact ⟨rfl, MH3.out.a.kt.bel⟩
                              | true =>
                                rw [hh] at MN
                                obtain ⟨n3, n4⟩ := n2 hh
                                have q6 : decide (y ≤ m + r.f) = true := decide_eq_true n3
                                clear hh n2
                                by_cases hxy : y = x
                                · have q7 : (y == x) = true := beq_iff_eq.2 hxy
                                  clear hxy n4
                                  go_wp2_with (go_at_call 17; (with_reducible refine (MN.out _ MH2.out).mono ?_); rintro e w13 ⟨rfl, hb13⟩; have MH3 := Lib.hid (MH2.out.below hb13); have hbx3 := MH3.out.bx.cells; clear hb13)
                                  go_ret
                                  exact ⟨rfl, MH3.out.a.kt.bel⟩
                                · have q7 : (y == x) = false := beq_eq_false_iff_ne.2 hxy
                                  have q8 : (y == m + r.f) = true := beq_iff_eq.2 (n4.resolve_left hxy)
                                  clear hxy n4
                                  go_wp2_with (go_at_call 17; (with_reducible refine (MN.out _ MH2.out).mono ?_); rintro e w13 ⟨rfl, hb13⟩; have MH3 := Lib.hid (MH2.out.below hb13); have hbx3 := MH3.out.bx.cells; clear hb13)
                                  go_ret
                                  exact ⟨rfl, MH3.out.a.kt.bel⟩
                            · have q4 : (r.k == 4) = false := beq_eq_false_iff_ne.2 hk
                              have q5 : decide (x ≤ y) = true := decide_eq_true (hgm hk)
                              clear hgm hnv hk
                              go_wp2
                              go_ret
                              exact ⟨rfl, MH2.out.a.kt.bel⟩
                      exact AllReadyH.nil
                  exact AllReadyH.nil
              exact AllReadyH.nil
          exact AllReadyH.nil
      refine AllReadyH.cons1 ⟨?_, ?_, fun K hK => ?_⟩ ?_
      rotate_left
      · simp only [List.getElem?_toArray, List.getElem?_cons_zero, List.getElem?_cons_succ]; rfl
      · rw [if_pos (by rfl)]
        go_simp
        refine hK.out _ _ (KS.out _ (below_alloc hHeld.2 (.cells #[.slice none 0 0, .int .i64 0, .bool false] 32))) (fun hHeld => ?_)
        clear hK K
        try simp only [Act.put, List.setIfInBounds_toArray, List.set_cons_zero, List.set_cons_succ]
        as_aux_lemma =>
          refine wpAnyH_ready (rs := [2, 4]) (by kernel_rfl) (by simp) ?_
          refine AllReadyH.cons1 ⟨?_, ?_, fun K hK => ?_⟩ ?_
          rotate_left
          · simp only [List.getElem?_toArray, List.getElem?_cons_zero, List.getElem?_cons_succ]; rfl
          · have hbl := hHeld.2
            have hga := (hn21 W5 (.cells #[] 24) (.cells #[.slice none 0 0, .int .i64 0, .bool false] 32))
            refine step_append_any _ rfl (.tmp 45) (.tmp 46) 22 rfl W5.heap.size 24 ir _ 3 24 Try.underlying22 hir.out zr0 zr1 zr2 rfl (by decide) (.slice (some ⟨W5.heap.size, 0, none⟩) 0 0) 0 [] rfl (own_e hga (by omega)) _ A0 R.length c0 (rucs R) rfl (RD.out _ hbl) (rucs_one R) hx0.out.1.1 hx0.out.1.2 hbl.size ?_
            intro v1 w6 ho1 hg1 ha1
            rw [Nat.zero_add, List.nil_append] at ho1
            obtain ⟨A1, c1, rfl, hcap1⟩ := own_slice_cap ho1
            have hb6 := hbl.grown hg1 hbl.size (fun k e => by simp [Value.ownBlock] at e; omega)
            have hz6 := hb6.size
            have hzf := zkeep2 hg1 (own_e hga (show W5.heap.size ≤ _ by omega)) (hn22 W5 (.cells #[] 24) (.cells #[.slice none 0 0, .int .i64 0, .bool false] 32))
            refine hK.out _ _ (KS.out _ hb6) (fun hHeld => ?_)
            clear hK K
            try simp only [Act.put, List.setIfInBounds_toArray, List.set_cons_zero, List.set_cons_succ]
            as_aux_lemma =>
              refine wpAnyH_ready (rs := [4]) (by kernel_rfl) (by simp) ?_
              refine AllReadyH.cons1 ⟨?_, ?_, fun K hK => ?_⟩ ?_
              rotate_left
              · simp only [List.getElem?_toArray, List.getElem?_cons_zero, List.getElem?_cons_succ]; rfl
              · rw [if_pos (by rfl)]
                go_simp
                refine hK.out _ _ (KS.out _ (below_alloc hHeld.2 (.cells #[.int .i64 r.k, .int .i64 r.l, .int .i64 r.f] 24))) (fun hHeld => ?_)
                clear hK K
                try simp only [Act.put, List.setIfInBounds_toArray, List.set_cons_zero, List.set_cons_succ]
                as_aux_lemma =>
                  refine wpAnyH_ready (rs := [5]) (by kernel_rfl) (by simp) ?_
                  refine AllReadyH.cons1 ⟨?_, ?_, fun K hK => ?_⟩ ?_
                  rotate_left
                  · simp only [List.getElem?_toArray, List.getElem?_cons_zero, List.getElem?_cons_succ]; rfl
                  · have hbl := hHeld.2
                    refine step_append_any _ rfl (.tmp 47) (.tmp 49) 22 rfl W5.heap.size 24 ir _ 3 24 Try.underlying22 hir.out zr0 zr1 zr2 rfl (by decide) (.slice A1 R.length c1) R.length (rucs R) rfl (World.ownsRow.alloc ho1 (.cells #[.int .i64 r.k, .int .i64 r.l, .int .i64 r.f] 24)) _ _ 1 1 (ruc r) rfl (reads3 (heap_alloc_new w6 (.cells #[.int .i64 r.k, .int .i64 r.l, .int .i64 r.f] 24))) (by unfold ruc; simp [Value.oneCell']) hx0.out.2.1 hx0.out.2.2 hbl.size ?_
                    intro v2 w7 ho2 hg2 ha2
                    obtain ⟨A2, c2, rfl, hcap2⟩ := own_slice_cap ho2
                    have hb7 := hbl.grown hg2 hbl.size (own_base ho1)
                    have hz7 := hb7.size
                    have hzf := zkeep2 hg2 (World.ownsRow.alloc ho1 (.cells #[.int .i64 r.k, .int .i64 r.l, .int .i64 r.f] 24)) (blk_alloc' (o := .cells #[.int .i64 r.k, .int .i64 r.l, .int .i64 r.f] 24) hzf)
                    refine hK.out _ _ (KS.out _ hb7) (fun hHeld => ?_)
                    clear hK K
                    try simp only [Act.put, List.setIfInBounds_toArray, List.set_cons_zero, List.set_cons_succ]
                    as_aux_lemma =>
                      refine wpAnyH_ready (rs := [6]) (by kernel_rfl) (by simp) ?_
                      refine AllReadyH.cons1 ⟨?_, ?_, fun K hK => ?_⟩ ?_
                      rotate_left
                      · simp only [List.getElem?_toArray, List.getElem?_cons_zero, List.getElem?_cons_succ]; rfl
                      · rw [if_pos (by rfl)]
                        go_simp
                        go_at_call 14; (with_reducible refine (C2.out _ _ _ ho2).mono ?_); rintro e w8 ⟨A3, c3, ks3, rfl, hk8, hm8, hb8⟩
                        have hsz8 := Nat.le_trans hHeld.2.size hb8.size
                        have hzf := (hb8.block _ (lt_heap hzf)).trans hzf
                        refine hK.out _ _ (KS.out _ (hHeld.2.trans (hb8.mono hHeld.2.size))) (fun hHeld => ?_)
                        clear hK K
                        try simp only [Act.put, List.setIfInBounds_toArray, List.set_cons_zero, List.set_cons_succ]
                        refine wpAnyH_takeL 7 #[true, true, true, true, true, true, true, true, false, false, true, false, false] (by kernel_rfl) (by kernel_rfl) (by kernel_rfl) (by kernel_rfl) (fun d v c a w h => h) (by assumption) ⟨?_, ?_, ?_, Or.inl ⟨?_, ?_⟩, ?_⟩
                        rotate_left
                        · simp only [List.getElem?_toArray, List.getElem?_cons_zero, List.getElem?_cons_succ]; rfl
                        rotate_left
                        · rfl
                        · intro w hSw; (try dsimp only at hSw); go_simp; try (with_reducible rfl)
                        simp only [Act.put, List.setIfInBounds_toArray, List.set_cons_zero, List.set_cons_succ]
                        refine wpAnyH_takeL 8 #[true, true, true, true, true, true, true, true, true, false, true, false, false] (by kernel_rfl) (by kernel_rfl) (by kernel_rfl) (by kernel_rfl) (fun d v c a w h => h) (by assumption) ⟨?_, ?_, ?_, Or.inl ⟨?_, ?_⟩, ?_⟩
                        rotate_left
                        · simp only [List.getElem?_toArray, List.getElem?_cons_zero, List.getElem?_cons_succ]; rfl
                        rotate_left
                        · rfl
                        · intro w hSw; (try dsimp only at hSw); go_simp; try (with_reducible rfl)
                        simp only [Act.put, List.setIfInBounds_toArray, List.set_cons_zero, List.set_cons_succ]
                        refine wpAnyH_takeL 9 #[true, true, true, true, true, true, true, true, true, true, true, false, false] (by kernel_rfl) (by kernel_rfl) (by kernel_rfl) (by kernel_rfl) (fun d v c a w h => h) (by assumption) ⟨?_, ?_, ?_, Or.inl ⟨?_, ?_⟩, ?_⟩
                        rotate_left
                        · simp only [List.getElem?_toArray, List.getElem?_cons_zero, List.getElem?_cons_succ]; rfl
                        rotate_left
                        · rfl
                        · intro w hSw; (try dsimp only at hSw); go_simp; try (with_reducible rfl)
                        simp only [Act.put, List.setIfInBounds_toArray, List.set_cons_zero, List.set_cons_succ]
                        as_aux_lemma =>
                          have hbl8 := hHeld.2
                          refine wpAnyH_oneL 11 #[true, true, true, true, true, true, true, true, true, true, true, true, false] (by kernel_rfl) (by kernel_rfl) ⟨?_, ?_, fun K hK => ?_⟩
                          rotate_left
                          · simp only [List.getElem?_toArray, List.getElem?_cons_zero, List.getElem?_cons_succ]; rfl
                          have z0 := cell_of_row _ _ 0 _ _ (0, 0) hzf
                          have z1 := cell_of_row _ _ 1 _ _ (0, 0) hzf
                          have z2 := cell_of_row _ _ 2 _ _ (0, 0) hzf
                          have y0 := frozen_of_row _ _ 0 _ _ hzf
                          have y1 := frozen_of_row _ _ 1 _ _ hzf
                          have y2 := frozen_of_row _ _ 2 _ _ hzf
                          simp only [List.size_toArray, List.getElem?_toArray, List.getElem?_cons_zero, List.getElem?_cons_succ] at z0 z1 z2
                          rw [if_pos (by rfl)]
                          go_simp
                          have hx9 := zset hzf (.slice A3 ks3.length c3) (.int .i64 (neverF (R ++ [r])).1) (.bool (neverF (R ++ [r])).2)
                          have hk9 := hk8.chg hx9.2 (fun k cur hk e => by subst e; exact heap_ne hzf hk (by simp) rfl) (fun k cur hk e => by subst e; exact heap_ne hzf hk (by simp) rfl)
                          have hbl9 := hx9.2.below hbl8 hbl8.size (fun k e => by omega)
                          refine hK.out _ _ (KS.out _ hbl9) (fun hHeld => ?_)
                          replace hx9 := hx9.1
                          generalize World.setCell _ _ _ = W9 at *
                          clear hK K
                          try simp only [Act.put, List.setIfInBounds_toArray, List.set_cons_zero, List.set_cons_succ]
                          refine wpAnyH_takeL 12 #[true, true, true, true, true, true, true, true, true, true, true, true, true] (by kernel_rfl) (by kernel_rfl) (by kernel_rfl) (by kernel_rfl) (fun d v c a w h => h) (by assumption) ⟨?_, ?_, ?_, Or.inl ⟨?_, ?_⟩, ?_⟩
                          rotate_left
                          · simp only [List.getElem?_toArray, List.getElem?_cons_zero, List.getElem?_cons_succ]; rfl
                          rotate_left
                          · rfl
                          · intro w hSw; (try dsimp only at hSw); go_simp; try (with_reducible rfl)
                          simp only [Act.put, List.setIfInBounds_toArray, List.set_cons_zero, List.set_cons_succ]
                          refine wpAnyH_done (by kernel_rfl) (NoPanic.normal ?_) _
                          obtain ⟨q2, hq2⟩ : ∃ q2, q2 = W5.heap.size + 1 := ⟨_, rfl⟩
                          rw [← hq2] at hx9 ⊢
                          clear hq2
                          as_aux_lemma =>
                            have hbw9 := Lib.hid (hbw5.out.trans (hbl9.mono hbw5.out.size))
                            have HKB := Lib.hid hk9
                            have HX9 := Lib.hid hx9
                            have HM8 := Lib.hid hm8
                            have HBL := Lib.hid hbl9
                            clear hk9 hx9 hm8 hbl9
                            go_upto_region 8 with (go_at_call 15; (with_reducible refine (made_calls (B := w.heap.size) (hS.out.below hbw9.out) hbw9.out.size hs.out h30).mono ?_); rintro e w10 ⟨b, gx, rfl, ⟨base, A4, c4, hl1, hl2, hl3, ht4⟩, hx4, hb10⟩; have hl1' := Nat.le_trans HBL.out.size hl1; have hl2' := Nat.le_trans HBL.out.size hl2; have hbb := HBL.out.trans (hb10.mono HBL.out.size); have BX := Lib.hid (bo_below bx5.out hbb); rw [← hW5] at hl1' hl2' hbb; have H1 := Lib.hid (lw_mk RT.out hb3.out hk4.out hm4.out hb4.out hl1' hl2' hl3 ⟨_, _, ht4⟩ hbb); have H2 := Lib.hid (lw_mk2 RT2.out HKB.out HM8.out HX9.out hbw9.out hl1 hl2 hl3 ⟨_, _, ht4⟩ hb10); clear hl1 hl2 hl3 ht4 hx4 hb10 hl1' hl2' hbb)
                            generalize mkM L L.length = M at *
                            have MH : MoreH w w10 R r M base b num w3.heap.size w4.heap.size A c ks _ q2 A3 c3 ks3 := ⟨H1.out, H2.out, BX.out, G.out, fun h => more_ge RT2.out h G.out num, fun h => more_never RT.out hrb.out h G.out num, minM_rng G.out num, rightB_f hrb.out⟩
                            clear HKB HX9 HM8 HBL hbw9 H1 H2 BX bx5 hb45 hbw5 KS RD C2 hz5 hS5 hW5 X4 RT RT2 hb3 hb4 hk4 hm4 hR hS hs hrb
                            generalize w4.heap.size = q1 at *
                            have T1 := Lib.hid MH.t1
                            have T2 := Lib.hid MH.t2
                            have MN := Lib.hid MH.mn
                            have hnv := MH.nv
                            have hgm := MH.ge
                            have hwr := MH.wr
                            have hrf := MH.rf
                            have hc10 := MH.cells
                            replace MH := Lib.hid MH
                            generalize tl R M num = x at *
                            generalize tl (R ++ [r]) M num = y at *
                            go_region_held3 (fun w' => (w'.cell? { block := q1, off := 0 } = some (.slice A ks.length c) ∧ w'.cell? { block := q1, off := 1 } = some (.int .i64 (neverF R).1) ∧ w'.cell? { block := q1, off := 2 } = some (.bool (neverF R).2)) ∧ w'.cell? { block := q2, off := 0 } = some (.slice A3 ks3.length c3) ∧ w'.cell? { block := q2, off := 1 } = some (.int .i64 (neverF (R ++ [r])).1) ∧ w'.cell? { block := q2, off := 2 } = some (.bool (neverF (R ++ [r])).2)) (first | exact hc10 | exact hc11 | exact hc12)
                              ((first
                                | (go_at_call 16
                                   (with_reducible refine (T1.out _ (MH.out.below (below_drew (Below.refl _ _)))).mono ?_)
                                   rintro e w11 ⟨rfl, hb11⟩
                                   have MH1 := Lib.hid (MH.out.below ((below_drew (Below.refl _ _)).trans hb11))
                                   have hc11 := MH1.out.cells
                                   clear hb11)
                                | (go_at_call 16
                                   (with_reducible refine (T2.out _ MH1.out).mono ?_)
                                   rintro e w12 ⟨rfl, hb12⟩
                                   have MH2 := Lib.hid (MH1.out.below hb12)
                                   have hc12 := MH2.out.cells
                                   clear hb12)))
                            have hbx := MH2.out.bx.cells
                            clear MH MH1 hc10 hc11 T1 T2
                            have d1 : IntKind.i64.wrap (minM M num + r.f) = minM M num + r.f := IntWalk.i64_in _ (by omega)
                            have d2 : wrap64 (minM M num + r.f) = minM M num + r.f := (i64_w _).symm.trans d1
                            generalize minM M num = m at *
                            by_cases hk : r.k = 4
                            · have q4 : (r.k == 4) = true := beq_iff_eq.2 hk
                              obtain ⟨n1, n2⟩ := hnv hk
                              have q5 : decide (y ≤ x) = true := decide_eq_true n1
                              clear hk hgm hnv
                              cases hh : hit M num with
                              | false =>
                                rw [hh] at MN
                                clear hh n2
                                go_wp2_with (go_at_call 17; (with_reducible refine (MN.out _ MH2.out).mono ?_); rintro e w13 ⟨rfl, hb13⟩; have MH3 := Lib.hid (MH2.out.below hb13); have hbx3 := MH3.out.bx.cells; clear hb13)
                                go_ret
                                exact ⟨rfl, MH3.out.a.kt.bel⟩
                              | true =>
                                rw [hh] at MN
                                obtain ⟨n3, n4⟩ := n2 hh
                                have q6 : decide (y ≤ m + r.f) = true := decide_eq_true n3
                                clear hh n2
                                by_cases hxy : y = x
                                · have q7 : (y == x) = true := beq_iff_eq.2 hxy
                                  clear hxy n4
                                  go_wp2_with (go_at_call 17; (with_reducible refine (MN.out _ MH2.out).mono ?_); rintro e w13 ⟨rfl, hb13⟩; have MH3 := Lib.hid (MH2.out.below hb13); have hbx3 := MH3.out.bx.cells; clear hb13)
                                  go_ret
                                  exact ⟨rfl, MH3.out.a.kt.bel⟩
                                · have q7 : (y == x) = false := beq_eq_false_iff_ne.2 hxy
                                  have q8 : (y == m + r.f) = true := beq_iff_eq.2 (n4.resolve_left hxy)
                                  clear hxy n4
                                  go_wp2_with (go_at_call 17; (with_reducible refine (MN.out _ MH2.out).mono ?_); rintro e w13 ⟨rfl, hb13⟩; have MH3 := Lib.hid (MH2.out.below hb13); have hbx3 := MH3.out.bx.cells; clear hb13)
                                  go_ret
                                  exact ⟨rfl, MH3.out.a.kt.bel⟩
                            · have q4 : (r.k == 4) = false := beq_eq_false_iff_ne.2 hk
                              have q5 : decide (x ≤ y) = true := decide_eq_true (hgm hk)
                              clear hgm hnv hk
                              go_wp2
                              go_ret
                              exact ⟨rfl, MH2.out.a.kt.bel⟩
                      exact AllReadyH.nil
                  exact AllReadyH.nil
              exact AllReadyH.nil
          refine AllReadyH.cons1 ⟨?_, ?_, fun K hK => ?_⟩ ?_
          rotate_left
          · simp only [List.getElem?_toArray, List.getElem?_cons_zero, List.getElem?_cons_succ]; rfl
          · rw [if_pos (by rfl)]
            go_simp
            refine hK.out _ _ (KS.out _ (below_alloc hHeld.2 (.cells #[.int .i64 r.k, .int .i64 r.l, .int .i64 r.f] 24))) (fun hHeld => ?_)
            clear hK K
            try simp only [Act.put, List.setIfInBounds_toArray, List.set_cons_zero, List.set_cons_succ]
            as_aux_lemma =>
              refine wpAnyH_ready (rs := [2]) (by kernel_rfl) (by simp) ?_
              refine AllReadyH.cons1 ⟨?_, ?_, fun K hK => ?_⟩ ?_
              rotate_left
              · simp only [List.getElem?_toArray, List.getElem?_cons_zero, List.getElem?_cons_succ]; rfl
              · have hbl := hHeld.2
                have hga := (hn31 W5 (.cells #[] 24) (.cells #[.slice none 0 0, .int .i64 0, .bool false] 32) (.cells #[.int .i64 r.k, .int .i64 r.l, .int .i64 r.f] 24))
                refine step_append_any _ rfl (.tmp 45) (.tmp 46) 22 rfl W5.heap.size 24 ir _ 3 24 Try.underlying22 hir.out zr0 zr1 zr2 rfl (by decide) (.slice (some ⟨W5.heap.size, 0, none⟩) 0 0) 0 [] rfl (own_e hga (by omega)) _ A0 R.length c0 (rucs R) rfl (RD.out _ hbl) (rucs_one R) hx0.out.1.1 hx0.out.1.2 hbl.size ?_
                intro v1 w6 ho1 hg1 ha1
                rw [Nat.zero_add, List.nil_append] at ho1
                obtain ⟨A1, c1, rfl, hcap1⟩ := own_slice_cap ho1
                have hb6 := hbl.grown hg1 hbl.size (fun k e => by simp [Value.ownBlock] at e; omega)
                have hgc := (hg1.block _ (lt_heap ((hn33 W5 (.cells #[] 24) (.cells #[.slice none 0 0, .int .i64 0, .bool false] 32) (.cells #[.int .i64 r.k, .int .i64 r.l, .int .i64 r.f] 24)))) (by simp [Value.ownBlock] <;> omega)).trans ((hn33 W5 (.cells #[] 24) (.cells #[.slice none 0 0, .int .i64 0, .bool false] 32) (.cells #[.int .i64 r.k, .int .i64 r.l, .int .i64 r.f] 24)))
                have hz6 := hb6.size
                have hzf := zkeep2 hg1 (own_e hga (show W5.heap.size ≤ _ by omega)) (hn32 W5 (.cells #[] 24) (.cells #[.slice none 0 0, .int .i64 0, .bool false] 32) (.cells #[.int .i64 r.k, .int .i64 r.l, .int .i64 r.f] 24))
                refine hK.out _ _ (KS.out _ hb6) (fun hHeld => ?_)
                clear hK K
                try simp only [Act.put, List.setIfInBounds_toArray, List.set_cons_zero, List.set_cons_succ]
                as_aux_lemma =>
                  refine wpAnyH_ready (rs := [5]) (by kernel_rfl) (by simp) ?_
                  refine AllReadyH.cons1 ⟨?_, ?_, fun K hK => ?_⟩ ?_
                  rotate_left
                  · simp only [List.getElem?_toArray, List.getElem?_cons_zero, List.getElem?_cons_succ]; rfl
                  · have hbl := hHeld.2
                    refine step_append_any _ rfl (.tmp 47) (.tmp 49) 22 rfl W5.heap.size 24 ir _ 3 24 Try.underlying22 hir.out zr0 zr1 zr2 rfl (by decide) (.slice A1 R.length c1) R.length (rucs R) rfl ho1 _ _ 1 1 (ruc r) rfl (reads3 hgc) (by unfold ruc; simp [Value.oneCell']) hx0.out.2.1 hx0.out.2.2 hbl.size ?_
                    intro v2 w7 ho2 hg2 ha2
                    obtain ⟨A2, c2, rfl, hcap2⟩ := own_slice_cap ho2
                    have hb7 := hbl.grown hg2 hbl.size (own_base ho1)
                    have hz7 := hb7.size
                    have hzf := zkeep2 hg2 ho1 hzf
                    refine hK.out _ _ (KS.out _ hb7) (fun hHeld => ?_)
                    clear hK K
                    try simp only [Act.put, List.setIfInBounds_toArray, List.set_cons_zero, List.set_cons_succ]
                    as_aux_lemma =>
                      refine wpAnyH_ready (rs := [6]) (by kernel_rfl) (by simp) ?_
                      refine AllReadyH.cons1 ⟨?_, ?_, fun K hK => ?_⟩ ?_
                      rotate_left
                      · simp only [List.getElem?_toArray, List.getElem?_cons_zero, List.getElem?_cons_succ]; rfl
                      · rw [if_pos (by rfl)]
                        go_simp
                        go_at_call 14; (with_reducible refine (C2.out _ _ _ ho2).mono ?_); rintro e w8 ⟨A3, c3, ks3, rfl, hk8, hm8, hb8⟩
                        have hsz8 := Nat.le_trans hHeld.2.size hb8.size
                        have hzf := (hb8.block _ (lt_heap hzf)).trans hzf
                        refine hK.out _ _ (KS.out _ (hHeld.2.trans (hb8.mono hHeld.2.size))) (fun hHeld => ?_)
                        clear hK K
                        try simp only [Act.put, List.setIfInBounds_toArray, List.set_cons_zero, List.set_cons_succ]
                        refine wpAnyH_takeL 7 #[true, true, true, true, true, true, true, true, false, false, true, false, false] (by kernel_rfl) (by kernel_rfl) (by kernel_rfl) (by kernel_rfl) (fun d v c a w h => h) (by assumption) ⟨?_, ?_, ?_, Or.inl ⟨?_, ?_⟩, ?_⟩
                        rotate_left
                        · simp only [List.getElem?_toArray, List.getElem?_cons_zero, List.getElem?_cons_succ]; rfl
                        rotate_left
                        · rfl
                        · intro w hSw; (try dsimp only at hSw); go_simp; try (with_reducible rfl)
                        simp only [Act.put, List.setIfInBounds_toArray, List.set_cons_zero, List.set_cons_succ]
                        refine wpAnyH_takeL 8 #[true, true, true, true, true, true, true, true, true, false, true, false, false] (by kernel_rfl) (by kernel_rfl) (by kernel_rfl) (by kernel_rfl) (fun d v c a w h => h) (by assumption) ⟨?_, ?_, ?_, Or.inl ⟨?_, ?_⟩, ?_⟩
                        rotate_left
                        · simp only [List.getElem?_toArray, List.getElem?_cons_zero, List.getElem?_cons_succ]; rfl
                        rotate_left
                        · rfl
                        · intro w hSw; (try dsimp only at hSw); go_simp; try (with_reducible rfl)
                        simp only [Act.put, List.setIfInBounds_toArray, List.set_cons_zero, List.set_cons_succ]
                        refine wpAnyH_takeL 9 #[true, true, true, true, true, true, true, true, true, true, true, false, false] (by kernel_rfl) (by kernel_rfl) (by kernel_rfl) (by kernel_rfl) (fun d v c a w h => h) (by assumption) ⟨?_, ?_, ?_, Or.inl ⟨?_, ?_⟩, ?_⟩
                        rotate_left
                        · simp only [List.getElem?_toArray, List.getElem?_cons_zero, List.getElem?_cons_succ]; rfl
                        rotate_left
                        · rfl
                        · intro w hSw; (try dsimp only at hSw); go_simp; try (with_reducible rfl)
                        simp only [Act.put, List.setIfInBounds_toArray, List.set_cons_zero, List.set_cons_succ]
                        as_aux_lemma =>
                          have hbl8 := hHeld.2
                          refine wpAnyH_oneL 11 #[true, true, true, true, true, true, true, true, true, true, true, true, false] (by kernel_rfl) (by kernel_rfl) ⟨?_, ?_, fun K hK => ?_⟩
                          rotate_left
                          · simp only [List.getElem?_toArray, List.getElem?_cons_zero, List.getElem?_cons_succ]; rfl
                          have z0 := cell_of_row _ _ 0 _ _ (0, 0) hzf
                          have z1 := cell_of_row _ _ 1 _ _ (0, 0) hzf
                          have z2 := cell_of_row _ _ 2 _ _ (0, 0) hzf
                          have y0 := frozen_of_row _ _ 0 _ _ hzf
                          have y1 := frozen_of_row _ _ 1 _ _ hzf
                          have y2 := frozen_of_row _ _ 2 _ _ hzf
                          simp only [List.size_toArray, List.getElem?_toArray, List.getElem?_cons_zero, List.getElem?_cons_succ] at z0 z1 z2
                          rw [if_pos (by rfl)]
                          go_simp
                          have hx9 := zset hzf (.slice A3 ks3.length c3) (.int .i64 (neverF (R ++ [r])).1) (.bool (neverF (R ++ [r])).2)
                          have hk9 := hk8.chg hx9.2 (fun k cur hk e => by subst e; exact heap_ne hzf hk (by simp) rfl) (fun k cur hk e => by subst e; exact heap_ne hzf hk (by simp) rfl)
                          have hbl9 := hx9.2.below hbl8 hbl8.size (fun k e => by omega)
                          refine hK.out _ _ (KS.out _ hbl9) (fun hHeld => ?_)
                          replace hx9 := hx9.1
                          generalize World.setCell _ _ _ = W9 at *
                          clear hK K
                          try simp only [Act.put, List.setIfInBounds_toArray, List.set_cons_zero, List.set_cons_succ]
                          refine wpAnyH_takeL 12 #[true, true, true, true, true, true, true, true, true, true, true, true, true] (by kernel_rfl) (by kernel_rfl) (by kernel_rfl) (by kernel_rfl) (fun d v c a w h => h) (by assumption) ⟨?_, ?_, ?_, Or.inl ⟨?_, ?_⟩, ?_⟩
                          rotate_left
                          · simp only [List.getElem?_toArray, List.getElem?_cons_zero, List.getElem?_cons_succ]; rfl
                          rotate_left
                          · rfl
                          · intro w hSw; (try dsimp only at hSw); go_simp; try (with_reducible rfl)
                          simp only [Act.put, List.setIfInBounds_toArray, List.set_cons_zero, List.set_cons_succ]
                          refine wpAnyH_done (by kernel_rfl) (NoPanic.normal ?_) _
                          obtain ⟨q2, hq2⟩ : ∃ q2, q2 = W5.heap.size + 1 := ⟨_, rfl⟩
                          rw [← hq2] at hx9 ⊢
                          clear hq2
                          as_aux_lemma =>
                            have hbw9 := Lib.hid (hbw5.out.trans (hbl9.mono hbw5.out.size))
                            have HKB := Lib.hid hk9
                            have HX9 := Lib.hid hx9
                            have HM8 := Lib.hid hm8
                            have HBL := Lib.hid hbl9
                            clear hk9 hx9 hm8 hbl9
                            go_upto_region 8 with (go_at_call 15; (with_reducible refine (made_calls (B := w.heap.size) (hS.out.below hbw9.out) hbw9.out.size hs.out h30).mono ?_); rintro e w10 ⟨b, gx, rfl, ⟨base, A4, c4, hl1, hl2, hl3, ht4⟩, hx4, hb10⟩; have hl1' := Nat.le_trans HBL.out.size hl1; have hl2' := Nat.le_trans HBL.out.size hl2; have hbb := HBL.out.trans (hb10.mono HBL.out.size); have BX := Lib.hid (bo_below bx5.out hbb); rw [← hW5] at hl1' hl2' hbb; have H1 := Lib.hid (lw_mk RT.out hb3.out hk4.out hm4.out hb4.out hl1' hl2' hl3 ⟨_, _, ht4⟩ hbb); have H2 := Lib.hid (lw_mk2 RT2.out HKB.out HM8.out HX9.out hbw9.out hl1 hl2 hl3 ⟨_, _, ht4⟩ hb10); clear hl1 hl2 hl3 ht4 hx4 hb10 hl1' hl2' hbb)
                            generalize mkM L L.length = M at *
                            have MH : MoreH w w10 R r M base b num w3.heap.size w4.heap.size A c ks _ q2 A3 c3 ks3 := ⟨H1.out, H2.out, BX.out, G.out, fun h => more_ge RT2.out h G.out num, fun h => more_never RT.out hrb.out h G.out num, minM_rng G.out num, rightB_f hrb.out⟩
                            clear HKB HX9 HM8 HBL hbw9 H1 H2 BX bx5 hb45 hbw5 KS RD C2 hz5 hS5 hW5 X4 RT RT2 hb3 hb4 hk4 hm4 hR hS hs hrb
                            generalize w4.heap.size = q1 at *
                            have T1 := Lib.hid MH.t1
                            have T2 := Lib.hid MH.t2
                            have MN := Lib.hid MH.mn
                            have hnv := MH.nv
                            have hgm := MH.ge
                            have hwr := MH.wr
                            have hrf := MH.rf
                            have hc10 := MH.cells
                            replace MH := Lib.hid MH
                            generalize tl R M num = x at *
                            generalize tl (R ++ [r]) M num = y at *
                            go_region_held3 (fun w' => (w'.cell? { block := q1, off := 0 } = some (.slice A ks.length c) ∧ w'.cell? { block := q1, off := 1 } = some (.int .i64 (neverF R).1) ∧ w'.cell? { block := q1, off := 2 } = some (.bool (neverF R).2)) ∧ w'.cell? { block := q2, off := 0 } = some (.slice A3 ks3.length c3) ∧ w'.cell? { block := q2, off := 1 } = some (.int .i64 (neverF (R ++ [r])).1) ∧ w'.cell? { block := q2, off := 2 } = some (.bool (neverF (R ++ [r])).2)) (first | exact hc10 | exact hc11 | exact hc12)
                              ((first
                                | (go_at_call 16
                                   (with_reducible refine (T1.out _ (MH.out.below (below_drew (Below.refl _ _)))).mono ?_)
                                   rintro e w11 ⟨rfl, hb11⟩
                                   have MH1 := Lib.hid (MH.out.below ((below_drew (Below.refl _ _)).trans hb11))
                                   have hc11 := MH1.out.cells
                                   clear hb11)
                                | (go_at_call 16
                                   (with_reducible refine (T2.out _ MH1.out).mono ?_)
                                   rintro e w12 ⟨rfl, hb12⟩
                                   have MH2 := Lib.hid (MH1.out.below hb12)
                                   have hc12 := MH2.out.cells
                                   clear hb12)))
                            have hbx := MH2.out.bx.cells
                            clear MH MH1 hc10 hc11 T1 T2
                            have d1 : IntKind.i64.wrap (minM M num + r.f) = minM M num + r.f := IntWalk.i64_in _ (by omega)
                            have d2 : wrap64 (minM M num + r.f) = minM M num + r.f := (i64_w _).symm.trans d1
                            generalize minM M num = m at *
                            by_cases hk : r.k = 4
                            · have q4 : (r.k == 4) = true := beq_iff_eq.2 hk
                              obtain ⟨n1, n2⟩ := hnv hk
                              have q5 : decide (y ≤ x) = true := decide_eq_true n1
                              clear hk hgm hnv
                              cases hh : hit M num with
                              | false =>
                                rw [hh] at MN
                                clear hh n2
                                go_wp2_with (go_at_call 17; (with_reducible refine (MN.out _ MH2.out).mono ?_); rintro e w13 ⟨rfl, hb13⟩; have MH3 := Lib.hid (MH2.out.below hb13); have hbx3 := MH3.out.bx.cells; clear hb13)
                                go_ret
                                exact ⟨rfl, MH3.out.a.kt.bel⟩
                              | true =>
                                rw [hh] at MN
                                obtain ⟨n3, n4⟩ := n2 hh
                                have q6 : decide (y ≤ m + r.f) = true := decide_eq_true n3
                                clear hh n2
                                by_cases hxy : y = x
                                · have q7 : (y == x) = true := beq_iff_eq.2 hxy
                                  clear hxy n4
                                  go_wp2_with (go_at_call 17; (with_reducible refine (MN.out _ MH2.out).mono ?_); rintro e w13 ⟨rfl, hb13⟩; have MH3 := Lib.hid (MH2.out.below hb13); have hbx3 := MH3.out.bx.cells; clear hb13)
                                  go_ret
                                  exact ⟨rfl, MH3.out.a.kt.bel⟩
                                · have q7 : (y == x) = false := beq_eq_false_iff_ne.2 hxy
                                  have q8 : (y == m + r.f) = true := beq_iff_eq.2 (n4.resolve_left hxy)
                                  clear hxy n4
                                  go_wp2_with (go_at_call 17; (with_reducible refine (MN.out _ MH2.out).mono ?_); rintro e w13 ⟨rfl, hb13⟩; have MH3 := Lib.hid (MH2.out.below hb13); have hbx3 := MH3.out.bx.cells; clear hb13)
                                  go_ret
                                  exact ⟨rfl, MH3.out.a.kt.bel⟩
                            · have q4 : (r.k == 4) = false := beq_eq_false_iff_ne.2 hk
                              have q5 : decide (x ≤ y) = true := decide_eq_true (hgm hk)
                              clear hgm hnv hk
                              go_wp2
                              go_ret
                              exact ⟨rfl, MH2.out.a.kt.bel⟩
                      exact AllReadyH.nil
                  exact AllReadyH.nil
              exact AllReadyH.nil
          exact AllReadyH.nil
      exact AllReadyH.nil
  refine AllReadyH.cons1 ⟨?_, ?_, fun K hK => ?_⟩ ?_
  rotate_left
  · simp only [List.getElem?_toArray, List.getElem?_cons_zero, List.getElem?_cons_succ]; rfl
  · rw [if_pos (by rfl)]
    go_simp
    refine hK.out _ _ (KS.out _ (below_alloc hHeld.2 (.cells #[.int .i64 r.k, .int .i64 r.l, .int .i64 r.f] 24))) (fun hHeld => ?_)
    clear hK K
    try simp only [Act.put, List.setIfInBounds_toArray, List.set_cons_zero, List.set_cons_succ]
    as_aux_lemma =>
      refine wpAnyH_ready (rs := [0, 10]) (by kernel_rfl) (by simp) ?_
      refine AllReadyH.cons1 ⟨?_, ?_, fun K hK => ?_⟩ ?_
      rotate_left
      · simp only [List.getElem?_toArray, List.getElem?_cons_zero, List.getElem?_cons_succ]; rfl
      · rw [if_pos (by rfl)]
        go_simp
        refine hK.out _ _ (KS.out _ (below_alloc hHeld.2 (.cells #[] 24))) (fun hHeld => ?_)
        clear hK K
        try simp only [Act.put, List.setIfInBounds_toArray, List.set_cons_zero, List.set_cons_succ]
        as_aux_lemma =>
          refine wpAnyH_ready (rs := [2, 10]) (by kernel_rfl) (by simp) ?_
          refine AllReadyH.cons1 ⟨?_, ?_, fun K hK => ?_⟩ ?_
          rotate_left
          · simp only [List.getElem?_toArray, List.getElem?_cons_zero, List.getElem?_cons_succ]; rfl
          · have hbl := hHeld.2
            have hga := (hn22 W5 (.cells #[.int .i64 r.k, .int .i64 r.l, .int .i64 r.f] 24) (.cells #[] 24))
            refine step_append_any _ rfl (.tmp 45) (.tmp 46) 22 rfl W5.heap.size 24 ir _ 3 24 Try.underlying22 hir.out zr0 zr1 zr2 rfl (by decide) (.slice (some ⟨W5.heap.size + 1, 0, none⟩) 0 0) 0 [] rfl (own_e hga (by omega)) _ A0 R.length c0 (rucs R) rfl (RD.out _ hbl) (rucs_one R) hx0.out.1.1 hx0.out.1.2 hbl.size ?_
            intro v1 w6 ho1 hg1 ha1
            rw [Nat.zero_add, List.nil_append] at ho1
            obtain ⟨A1, c1, rfl, hcap1⟩ := own_slice_cap ho1
            have hb6 := hbl.grown hg1 hbl.size (fun k e => by simp [Value.ownBlock] at e; omega)
            have hgc := (hg1.block _ (lt_heap ((hn21 W5 (.cells #[.int .i64 r.k, .int .i64 r.l, .int .i64 r.f] 24) (.cells #[] 24)))) (by simp [Value.ownBlock] <;> omega)).trans ((hn21 W5 (.cells #[.int .i64 r.k, .int .i64 r.l, .int .i64 r.f] 24) (.cells #[] 24)))
            have hz6 := hb6.size
            refine hK.out _ _ (KS.out _ hb6) (fun hHeld => ?_)
            clear hK K
            try simp only [Act.put, List.setIfInBounds_toArray, List.set_cons_zero, List.set_cons_succ]
            as_aux_lemma =>
              refine wpAnyH_ready (rs := [5, 10]) (by kernel_rfl) (by simp) ?_
              refine AllReadyH.cons1 ⟨?_, ?_, fun K hK => ?_⟩ ?_
              rotate_left
              · simp only [List.getElem?_toArray, List.getElem?_cons_zero, List.getElem?_cons_succ]; rfl
              · have hbl := hHeld.2
                refine step_append_any _ rfl (.tmp 47) (.tmp 49) 22 rfl W5.heap.size 24 ir _ 3 24 Try.underlying22 hir.out zr0 zr1 zr2 rfl (by decide) (.slice A1 R.length c1) R.length (rucs R) rfl ho1 _ _ 1 1 (ruc r) rfl (reads3 hgc) (by unfold ruc; simp [Value.oneCell']) hx0.out.2.1 hx0.out.2.2 hbl.size ?_
                intro v2 w7 ho2 hg2 ha2
                obtain ⟨A2, c2, rfl, hcap2⟩ := own_slice_cap ho2
                have hb7 := hbl.grown hg2 hbl.size (own_base ho1)
                have hz7 := hb7.size
                refine hK.out _ _ (KS.out _ hb7) (fun hHeld => ?_)
                clear hK K
                try simp only [Act.put, List.setIfInBounds_toArray, List.set_cons_zero, List.set_cons_succ]
                as_aux_lemma =>
                  refine wpAnyH_ready (rs := [6, 10]) (by kernel_rfl) (by simp) ?_
                  refine AllReadyH.cons1 ⟨?_, ?_, fun K hK => ?_⟩ ?_
                  rotate_left
                  · simp only [List.getElem?_toArray, List.getElem?_cons_zero, List.getElem?_cons_succ]; rfl
                  · rw [if_pos (by rfl)]
                    go_simp
                    go_at_call 14; (with_reducible refine (C2.out _ _ _ ho2).mono ?_); rintro e w8 ⟨A3, c3, ks3, rfl, hk8, hm8, hb8⟩
                    have hsz8 := Nat.le_trans hHeld.2.size hb8.size
                    refine hK.out _ _ (KS.out _ (hHeld.2.trans (hb8.mono hHeld.2.size))) (fun hHeld => ?_)
                    clear hK K
                    try simp only [Act.put, List.setIfInBounds_toArray, List.set_cons_zero, List.set_cons_succ]
                    refine wpAnyH_takeL 7 #[true, true, true, true, true, true, true, true, false, false, false, false, false] (by kernel_rfl) (by kernel_rfl) (by kernel_rfl) (by kernel_rfl) (fun d v c a w h => h) (by assumption) ⟨?_, ?_, ?_, Or.inl ⟨?_, ?_⟩, ?_⟩
                    rotate_left
                    · simp only [List.getElem?_toArray, List.getElem?_cons_zero, List.getElem?_cons_succ]; rfl
                    rotate_left
                    · rfl
                    · intro w hSw; (try dsimp only at hSw); go_simp; try (with_reducible rfl)
                    simp only [Act.put, List.setIfInBounds_toArray, List.set_cons_zero, List.set_cons_succ]
                    refine wpAnyH_takeL 8 #[true, true, true, true, true, true, true, true, true, false, false, false, false] (by kernel_rfl) (by kernel_rfl) (by kernel_rfl) (by kernel_rfl) (fun d v c a w h => h) (by assumption) ⟨?_, ?_, ?_, Or.inl ⟨?_, ?_⟩, ?_⟩
                    rotate_left
                    · simp only [List.getElem?_toArray, List.getElem?_cons_zero, List.getElem?_cons_succ]; rfl
                    rotate_left
                    · rfl
                    · intro w hSw; (try dsimp only at hSw); go_simp; try (with_reducible rfl)
                    simp only [Act.put, List.setIfInBounds_toArray, List.set_cons_zero, List.set_cons_succ]
                    refine wpAnyH_takeL 9 #[true, true, true, true, true, true, true, true, true, true, false, false, false] (by kernel_rfl) (by kernel_rfl) (by kernel_rfl) (by kernel_rfl) (fun d v c a w h => h) (by assumption) ⟨?_, ?_, ?_, Or.inl ⟨?_, ?_⟩, ?_⟩
                    rotate_left
                    · simp only [List.getElem?_toArray, List.getElem?_cons_zero, List.getElem?_cons_succ]; rfl
                    rotate_left
                    · rfl
                    · intro w hSw; (try dsimp only at hSw); go_simp; try (with_reducible rfl)
                    simp only [Act.put, List.setIfInBounds_toArray, List.set_cons_zero, List.set_cons_succ]
                    as_aux_lemma =>
                      refine wpAnyH_ready (rs := [10]) (by kernel_rfl) (by simp) ?_
                      refine AllReadyH.cons1 ⟨?_, ?_, fun K hK => ?_⟩ ?_
                      rotate_left
                      · simp only [List.getElem?_toArray, List.getElem?_cons_zero, List.getElem?_cons_succ]; rfl
                      · rw [if_pos (by rfl)]
                        go_simp
                        refine hK.out _ _ (KS.out _ (below_alloc hHeld.2 (.cells #[.slice none 0 0, .int .i64 0, .bool false] 32))) (fun hHeld => ?_)
                        clear hK K
                        try simp only [Act.put, List.setIfInBounds_toArray, List.set_cons_zero, List.set_cons_succ]
                        as_aux_lemma =>
                          have hbl8 := hHeld.2
                          refine wpAnyH_oneL 11 #[true, true, true, true, true, true, true, true, true, true, true, true, false] (by kernel_rfl) (by kernel_rfl) ⟨?_, ?_, fun K hK => ?_⟩
                          rotate_left
                          · simp only [List.getElem?_toArray, List.getElem?_cons_zero, List.getElem?_cons_succ]; rfl
                          rw [if_pos (by rfl)]
                          go_simp
                          have hk9 := hk8.below (below_alloc (Below.refl _ w8) (.cells #[.slice A3 ks3.length c3, .int .i64 (neverF (R ++ [r])).1, .bool (neverF (R ++ [r])).2] 32))
                          have hx9 := heap_alloc_new w8 (.cells #[.slice A3 ks3.length c3, .int .i64 (neverF (R ++ [r])).1, .bool (neverF (R ++ [r])).2] 32)
                          have hbl9 : Below W5.heap.size W5 (w8.alloc (.cells #[.slice A3 ks3.length c3, .int .i64 (neverF (R ++ [r])).1, .bool (neverF (R ++ [r])).2] 32)) := below_alloc (un_alloc hbl8 hsz8) _
                          refine hK.out _ _ (KS.out _ hbl9) (fun hHeld => ?_)
                          generalize w8.alloc (.cells #[.slice A3 ks3.length c3, .int .i64 (neverF (R ++ [r])).1, .bool (neverF (R ++ [r])).2] 32) = W9 at *
                          generalize w8.heap.size = q2 at *
                          clear hK K
                          try simp only [Act.put, List.setIfInBounds_toArray, List.set_cons_zero, List.set_cons_succ]
                          refine wpAnyH_takeL 12 #[true, true, true, true, true, true, true, true, true, true, true, true, true] (by kernel_rfl) (by kernel_rfl) (by kernel_rfl) (by kernel_rfl) (fun d v c a w h => h) (by assumption) ⟨?_, ?_, ?_, Or.inl ⟨?_, ?_⟩, ?_⟩
                          rotate_left
                          · simp only [List.getElem?_toArray, List.getElem?_cons_zero, List.getElem?_cons_succ]; rfl
                          rotate_left
                          · rfl
                          · intro w hSw; (try dsimp only at hSw); go_simp; try (with_reducible rfl)
                          simp only [Act.put, List.setIfInBounds_toArray, List.set_cons_zero, List.set_cons_succ]
                          refine wpAnyH_done (by kernel_rfl) (NoPanic.normal ?_) _
                          as_aux_lemma =>
                            have hbw9 := Lib.hid (hbw5.out.trans (hbl9.mono hbw5.out.size))
                            have HKB := Lib.hid hk9
                            have HX9 := Lib.hid hx9
                            have HM8 := Lib.hid hm8
                            have HBL := Lib.hid hbl9
                            clear hk9 hx9 hm8 hbl9
                            go_upto_region 8 with (go_at_call 15; (with_reducible refine (made_calls (B := w.heap.size) (hS.out.below hbw9.out) hbw9.out.size hs.out h30).mono ?_); rintro e w10 ⟨b, gx, rfl, ⟨base, A4, c4, hl1, hl2, hl3, ht4⟩, hx4, hb10⟩; have hl1' := Nat.le_trans HBL.out.size hl1; have hl2' := Nat.le_trans HBL.out.size hl2; have hbb := HBL.out.trans (hb10.mono HBL.out.size); have BX := Lib.hid (bo_below bx5.out hbb); rw [← hW5] at hl1' hl2' hbb; have H1 := Lib.hid (lw_mk RT.out hb3.out hk4.out hm4.out hb4.out hl1' hl2' hl3 ⟨_, _, ht4⟩ hbb); have H2 := Lib.hid (lw_mk2 RT2.out HKB.out HM8.out HX9.out hbw9.out hl1 hl2 hl3 ⟨_, _, ht4⟩ hb10); clear hl1 hl2 hl3 ht4 hx4 hb10 hl1' hl2' hbb)
                            generalize mkM L L.length = M at *
                            have MH : MoreH w w10 R r M base b num w3.heap.size w4.heap.size A c ks _ q2 A3 c3 ks3 := ⟨H1.out, H2.out, BX.out, G.out, fun h => more_ge RT2.out h G.out num, fun h => more_never RT.out hrb.out h G.out num, minM_rng G.out num, rightB_f hrb.out⟩
                            clear HKB HX9 HM8 HBL hbw9 H1 H2 BX bx5 hb45 hbw5 KS RD C2 hz5 hS5 hW5 X4 RT RT2 hb3 hb4 hk4 hm4 hR hS hs hrb
                            generalize w4.heap.size = q1 at *
                            have T1 := Lib.hid MH.t1
                            have T2 := Lib.hid MH.t2
                            have MN := Lib.hid MH.mn
                            have hnv := MH.nv
                            have hgm := MH.ge
                            have hwr := MH.wr
                            have hrf := MH.rf
                            have hc10 := MH.cells
                            replace MH := Lib.hid MH
                            generalize tl R M num = x at *
                            generalize tl (R ++ [r]) M num = y at *
                            go_region_held3 (fun w' => (w'.cell? { block := q1, off := 0 } = some (.slice A ks.length c) ∧ w'.cell? { block := q1, off := 1 } = some (.int .i64 (neverF R).1) ∧ w'.cell? { block := q1, off := 2 } = some (.bool (neverF R).2)) ∧ w'.cell? { block := q2, off := 0 } = some (.slice A3 ks3.length c3) ∧ w'.cell? { block := q2, off := 1 } = some (.int .i64 (neverF (R ++ [r])).1) ∧ w'.cell? { block := q2, off := 2 } = some (.bool (neverF (R ++ [r])).2)) (first | exact hc10 | exact hc11 | exact hc12)
                              ((first
                                | (go_at_call 16
                                   (with_reducible refine (T1.out _ (MH.out.below (below_drew (Below.refl _ _)))).mono ?_)
                                   rintro e w11 ⟨rfl, hb11⟩
                                   have MH1 := Lib.hid (MH.out.below ((below_drew (Below.refl _ _)).trans hb11))
                                   have hc11 := MH1.out.cells
                                   clear hb11)
                                | (go_at_call 16
                                   (with_reducible refine (T2.out _ MH1.out).mono ?_)
                                   rintro e w12 ⟨rfl, hb12⟩
                                   have MH2 := Lib.hid (MH1.out.below hb12)
                                   have hc12 := MH2.out.cells
                                   clear hb12)))
                            have hbx := MH2.out.bx.cells
                            clear MH MH1 hc10 hc11 T1 T2
                            have d1 : IntKind.i64.wrap (minM M num + r.f) = minM M num + r.f := IntWalk.i64_in _ (by omega)
                            have d2 : wrap64 (minM M num + r.f) = minM M num + r.f := (i64_w _).symm.trans d1
                            generalize minM M num = m at *
                            by_cases hk : r.k = 4
                            · have q4 : (r.k == 4) = true := beq_iff_eq.2 hk
                              obtain ⟨n1, n2⟩ := hnv hk
                              have q5 : decide (y ≤ x) = true := decide_eq_true n1
                              clear hk hgm hnv
                              cases hh : hit M num with
                              | false =>
                                rw [hh] at MN
                                clear hh n2
                                go_wp2_with (go_at_call 17; (with_reducible refine (MN.out _ MH2.out).mono ?_); rintro e w13 ⟨rfl, hb13⟩; have MH3 := Lib.hid (MH2.out.below hb13); have hbx3 := MH3.out.bx.cells; clear hb13)
                                go_ret
                                exact ⟨rfl, MH3.out.a.kt.bel⟩
                              | true =>
                                rw [hh] at MN
                                obtain ⟨n3, n4⟩ := n2 hh
                                have q6 : decide (y ≤ m + r.f) = true := decide_eq_true n3
                                clear hh n2
                                by_cases hxy : y = x
                                · have q7 : (y == x) = true := beq_iff_eq.2 hxy
                                  clear hxy n4
                                  go_wp2_with (go_at_call 17; (with_reducible refine (MN.out _ MH2.out).mono ?_); rintro e w13 ⟨rfl, hb13⟩; have MH3 := Lib.hid (MH2.out.below hb13); have hbx3 := MH3.out.bx.cells; clear hb13)
                                  go_ret
                                  exact ⟨rfl, MH3.out.a.kt.bel⟩
                                · have q7 : (y == x) = false := beq_eq_false_iff_ne.2 hxy
                                  have q8 : (y == m + r.f) = true := beq_iff_eq.2 (n4.resolve_left hxy)
                                  clear hxy n4
                                  go_wp2_with (go_at_call 17; (with_reducible refine (MN.out _ MH2.out).mono ?_); rintro e w13 ⟨rfl, hb13⟩; have MH3 := Lib.hid (MH2.out.below hb13); have hbx3 := MH3.out.bx.cells; clear hb13)
                                  go_ret
                                  exact ⟨rfl, MH3.out.a.kt.bel⟩
                            · have q4 : (r.k == 4) = false := beq_eq_false_iff_ne.2 hk
                              have q5 : decide (x ≤ y) = true := decide_eq_true (hgm hk)
                              clear hgm hnv hk
                              go_wp2
                              go_ret
                              exact ⟨rfl, MH2.out.a.kt.bel⟩
                      exact AllReadyH.nil
                  refine AllReadyH.cons1 ⟨?_, ?_, fun K hK => ?_⟩ ?_
                  rotate_left
                  · simp only [List.getElem?_toArray, List.getElem?_cons_zero, List.getElem?_cons_succ]; rfl
                  · rw [if_pos (by rfl)]
                    go_simp
                    refine hK.out _ _ (KS.out _ (below_alloc hHeld.2 (.cells #[.slice none 0 0, .int .i64 0, .bool false] 32))) (fun hHeld => ?_)
                    clear hK K
                    try simp only [Act.put, List.setIfInBounds_toArray, List.set_cons_zero, List.set_cons_succ]
                    as_aux_lemma =>
                      refine wpAnyH_ready (rs := [6]) (by kernel_rfl) (by simp) ?_
                      refine AllReadyH.cons1 ⟨?_, ?_, fun K hK => ?_⟩ ?_
                      rotate_left
                      · simp only [List.getElem?_toArray, List.getElem?_cons_zero, List.getElem?_cons_succ]; rfl
                      · rw [if_pos (by rfl)]
                        go_simp
                        go_at_call 14; (with_reducible refine (C2.out _ _ _ (World.ownsRow.alloc ho2 (.cells #[.slice none 0 0, .int .i64 0, .bool false] 32))).mono ?_); rintro e w8 ⟨A3, c3, ks3, rfl, hk8, hm8, hb8⟩
                        have hsz8 := Nat.le_trans hHeld.2.size hb8.size
                        have hzf := (hb8.block _ (lt_heap (heap_alloc_new w7 (.cells #[.slice none 0 0, .int .i64 0, .bool false] 32)))).trans (heap_alloc_new w7 (.cells #[.slice none 0 0, .int .i64 0, .bool false] 32))
                        refine hK.out _ _ (KS.out _ (hHeld.2.trans (hb8.mono hHeld.2.size))) (fun hHeld => ?_)
                        clear hK K
                        try simp only [Act.put, List.setIfInBounds_toArray, List.set_cons_zero, List.set_cons_succ]
                        refine wpAnyH_takeL 7 #[true, true, true, true, true, true, true, true, false, false, true, false, false] (by kernel_rfl) (by kernel_rfl) (by kernel_rfl) (by kernel_rfl) (fun d v c a w h => h) (by assumption) ⟨?_, ?_, ?_, Or.inl ⟨?_, ?_⟩, ?_⟩
                        rotate_left
                        · simp only [List.getElem?_toArray, List.getElem?_cons_zero, List.getElem?_cons_succ]; rfl
                        rotate_left
                        · rfl
                        · intro w hSw; (try dsimp only at hSw); go_simp; try (with_reducible rfl)
                        simp only [Act.put, List.setIfInBounds_toArray, List.set_cons_zero, List.set_cons_succ]
                        refine wpAnyH_takeL 8 #[true, true, true, true, true, true, true, true, true, false, true, false, false] (by kernel_rfl) (by kernel_rfl) (by kernel_rfl) (by kernel_rfl) (fun d v c a w h => h) (by assumption) ⟨?_, ?_, ?_, Or.inl ⟨?_, ?_⟩, ?_⟩
                        rotate_left
                        · simp only [List.getElem?_toArray, List.getElem?_cons_zero, List.getElem?_cons_succ]; rfl
                        rotate_left
                        · rfl
                        · intro w hSw; (try dsimp only at hSw); go_simp; try (with_reducible rfl)
                        simp only [Act.put, List.setIfInBounds_toArray, List.set_cons_zero, List.set_cons_succ]
                        refine wpAnyH_takeL 9 #[true, true, true, true, true, true, true, true, true, true, true, false, false] (by kernel_rfl) (by kernel_rfl) (by kernel_rfl) (by kernel_rfl) (fun d v c a w h => h) (by assumption) ⟨?_, ?_, ?_, Or.inl ⟨?_, ?_⟩, ?_⟩
                        rotate_left
                        · simp only [List.getElem?_toArray, List.getElem?_cons_zero, List.getElem?_cons_succ]; rfl
                        rotate_left
                        · rfl
                        · intro w hSw; (try dsimp only at hSw); go_simp; try (with_reducible rfl)
                        simp only [Act.put, List.setIfInBounds_toArray, List.set_cons_zero, List.set_cons_succ]
                        as_aux_lemma =>
                          have hbl8 := hHeld.2
                          refine wpAnyH_oneL 11 #[true, true, true, true, true, true, true, true, true, true, true, true, false] (by kernel_rfl) (by kernel_rfl) ⟨?_, ?_, fun K hK => ?_⟩
                          rotate_left
                          · simp only [List.getElem?_toArray, List.getElem?_cons_zero, List.getElem?_cons_succ]; rfl
                          have z0 := cell_of_row _ _ 0 _ _ (0, 0) hzf
                          have z1 := cell_of_row _ _ 1 _ _ (0, 0) hzf
                          have z2 := cell_of_row _ _ 2 _ _ (0, 0) hzf
                          have y0 := frozen_of_row _ _ 0 _ _ hzf
                          have y1 := frozen_of_row _ _ 1 _ _ hzf
                          have y2 := frozen_of_row _ _ 2 _ _ hzf
                          simp only [List.size_toArray, List.getElem?_toArray, List.getElem?_cons_zero, List.getElem?_cons_succ] at z0 z1 z2
                          rw [if_pos (by rfl)]
                          go_simp
                          have hx9 := zset hzf (.slice A3 ks3.length c3) (.int .i64 (neverF (R ++ [r])).1) (.bool (neverF (R ++ [r])).2)
                          have hk9 := hk8.chg hx9.2 (fun k cur hk e => by subst e; exact heap_ne hzf hk (by simp) rfl) (fun k cur hk e => by subst e; exact heap_ne hzf hk (by simp) rfl)
                          have hbl9 := hx9.2.below hbl8 hbl8.size (fun k e => by omega)
                          refine hK.out _ _ (KS.out _ hbl9) (fun hHeld => ?_)
                          replace hx9 := hx9.1
                          generalize World.setCell _ _ _ = W9 at *
                          clear hK K
                          try simp only [Act.put, List.setIfInBounds_toArray, List.set_cons_zero, List.set_cons_succ]
                          refine wpAnyH_takeL 12 #[true, true, true, true, true, true, true, true, true, true, true, true, true] (by kernel_rfl) (by kernel_rfl) (by kernel_rfl) (by kernel_rfl) (fun d v c a w h => h) (by assumption) ⟨?_, ?_, ?_, Or.inl ⟨?_, ?_⟩, ?_⟩
                          rotate_left
                          · simp only [List.getElem?_toArray, List.getElem?_cons_zero, List.getElem?_cons_succ]; rfl
                          rotate_left
                          · rfl
                          · intro w hSw; (try dsimp only at hSw); go_simp; try (with_reducible rfl)
                          simp only [Act.put, List.setIfInBounds_toArray, List.set_cons_zero, List.set_cons_succ]
                          refine wpAnyH_done (by kernel_rfl) (NoPanic.normal ?_) _
                          obtain ⟨q2, hq2⟩ : ∃ q2, q2 = w7.heap.size := ⟨_, rfl⟩
                          rw [← hq2] at hx9 ⊢
                          clear hq2
                          as_aux_lemma =>
                            have hbw9 := Lib.hid (hbw5.out.trans (hbl9.mono hbw5.out.size))
                            have HKB := Lib.hid hk9
                            have HX9 := Lib.hid hx9
                            have HM8 := Lib.hid hm8
                            have HBL := Lib.hid hbl9
                            clear hk9 hx9 hm8 hbl9
                            go_upto_region 8 with (go_at_call 15; (with_reducible refine (made_calls (B := w.heap.size) (hS.out.below hbw9.out) hbw9.out.size hs.out h30).mono ?_); rintro e w10 ⟨b, gx, rfl, ⟨base, A4, c4, hl1, hl2, hl3, ht4⟩, hx4, hb10⟩; have hl1' := Nat.le_trans HBL.out.size hl1; have hl2' := Nat.le_trans HBL.out.size hl2; have hbb := HBL.out.trans (hb10.mono HBL.out.size); have BX := Lib.hid (bo_below bx5.out hbb); rw [← hW5] at hl1' hl2' hbb; have H1 := Lib.hid (lw_mk RT.out hb3.out hk4.out hm4.out hb4.out hl1' hl2' hl3 ⟨_, _, ht4⟩ hbb); have H2 := Lib.hid (lw_mk2 RT2.out HKB.out HM8.out HX9.out hbw9.out hl1 hl2 hl3 ⟨_, _, ht4⟩ hb10); clear hl1 hl2 hl3 ht4 hx4 hb10 hl1' hl2' hbb)
                            generalize mkM L L.length = M at *
                            have MH : MoreH w w10 R r M base b num w3.heap.size w4.heap.size A c ks _ q2 A3 c3 ks3 := ⟨H1.out, H2.out, BX.out, G.out, fun h => more_ge RT2.out h G.out num, fun h => more_never RT.out hrb.out h G.out num, minM_rng G.out num, rightB_f hrb.out⟩
                            clear HKB HX9 HM8 HBL hbw9 H1 H2 BX bx5 hb45 hbw5 KS RD C2 hz5 hS5 hW5 X4 RT RT2 hb3 hb4 hk4 hm4 hR hS hs hrb
                            generalize w4.heap.size = q1 at *
                            have T1 := Lib.hid MH.t1
                            have T2 := Lib.hid MH.t2
                            have MN := Lib.hid MH.mn
                            have hnv := MH.nv
                            have hgm := MH.ge
                            have hwr := MH.wr
                            have hrf := MH.rf
                            have hc10 := MH.cells
                            replace MH := Lib.hid MH
                            generalize tl R M num = x at *
                            generalize tl (R ++ [r]) M num = y at *
                            go_region_held3 (fun w' => (w'.cell? { block := q1, off := 0 } = some (.slice A ks.length c) ∧ w'.cell? { block := q1, off := 1 } = some (.int .i64 (neverF R).1) ∧ w'.cell? { block := q1, off := 2 } = some (.bool (neverF R).2)) ∧ w'.cell? { block := q2, off := 0 } = some (.slice A3 ks3.length c3) ∧ w'.cell? { block := q2, off := 1 } = some (.int .i64 (neverF (R ++ [r])).1) ∧ w'.cell? { block := q2, off := 2 } = some (.bool (neverF (R ++ [r])).2)) (first | exact hc10 | exact hc11 | exact hc12)
                              ((first
                                | (go_at_call 16
                                   (with_reducible refine (T1.out _ (MH.out.below (below_drew (Below.refl _ _)))).mono ?_)
                                   rintro e w11 ⟨rfl, hb11⟩
                                   have MH1 := Lib.hid (MH.out.below ((below_drew (Below.refl _ _)).trans hb11))
                                   have hc11 := MH1.out.cells
                                   clear hb11)
                                | (go_at_call 16
                                   (with_reducible refine (T2.out _ MH1.out).mono ?_)
                                   rintro e w12 ⟨rfl, hb12⟩
                                   have MH2 := Lib.hid (MH1.out.below hb12)
                                   have hc12 := MH2.out.cells
                                   clear hb12)))
                            have hbx := MH2.out.bx.cells
                            clear MH MH1 hc10 hc11 T1 T2
                            have d1 : IntKind.i64.wrap (minM M num + r.f) = minM M num + r.f := IntWalk.i64_in _ (by omega)
                            have d2 : wrap64 (minM M num + r.f) = minM M num + r.f := (i64_w _).symm.trans d1
                            generalize minM M num = m at *
                            by_cases hk : r.k = 4
                            · have q4 : (r.k == 4) = true := beq_iff_eq.2 hk
                              obtain ⟨n1, n2⟩ := hnv hk
                              have q5 : decide (y ≤ x) = true := decide_eq_true n1
                              clear hk hgm hnv
                              cases hh : hit M num with
                              | false =>
                                rw [hh] at MN
                                clear hh n2
                                go_wp2_with (go_at_call 17; (with_reducible refine (MN.out _ MH2.out).mono ?_); rintro e w13 ⟨rfl, hb13⟩; have MH3 := Lib.hid (MH2.out.below hb13); have hbx3 := MH3.out.bx.cells; clear hb13)
                                go_ret
                                exact ⟨rfl, MH3.out.a.kt.bel⟩
                              | true =>
                                rw [hh] at MN
                                obtain ⟨n3, n4⟩ := n2 hh
                                have q6 : decide (y ≤ m + r.f) = true := decide_eq_true n3
                                clear hh n2
                                by_cases hxy : y = x
                                · have q7 : (y == x) = true := beq_iff_eq.2 hxy
                                  clear hxy n4
                                  go_wp2_with (go_at_call 17; (with_reducible refine (MN.out _ MH2.out).mono ?_); rintro e w13 ⟨rfl, hb13⟩; have MH3 := Lib.hid (MH2.out.below hb13); have hbx3 := MH3.out.bx.cells; clear hb13)
                                  go_ret
                                  exact ⟨rfl, MH3.out.a.kt.bel⟩
                                · have q7 : (y == x) = false := beq_eq_false_iff_ne.2 hxy
                                  have q8 : (y == m + r.f) = true := beq_iff_eq.2 (n4.resolve_left hxy)
                                  clear hxy n4
                                  go_wp2_with (go_at_call 17; (with_reducible refine (MN.out _ MH2.out).mono ?_); rintro e w13 ⟨rfl, hb13⟩; have MH3 := Lib.hid (MH2.out.below hb13); have hbx3 := MH3.out.bx.cells; clear hb13)
                                  go_ret
                                  exact ⟨rfl, MH3.out.a.kt.bel⟩
                            · have q4 : (r.k == 4) = false := beq_eq_false_iff_ne.2 hk
                              have q5 : decide (x ≤ y) = true := decide_eq_true (hgm hk)
                              clear hgm hnv hk
                              go_wp2
                              go_ret
                              exact ⟨rfl, MH2.out.a.kt.bel⟩
                      exact AllReadyH.nil
                  exact AllReadyH.nil
              refine AllReadyH.cons1 ⟨?_, ?_, fun K hK => ?_⟩ ?_
              rotate_left
              · simp only [List.getElem?_toArray, List.getElem?_cons_zero, List.getElem?_cons_succ]; rfl
              · rw [if_pos (by rfl)]
                go_simp
                refine hK.out _ _ (KS.out _ (below_alloc hHeld.2 (.cells #[.slice none 0 0, .int .i64 0, .bool false] 32))) (fun hHeld => ?_)
                clear hK K
                try simp only [Act.put, List.setIfInBounds_toArray, List.set_cons_zero, List.set_cons_succ]
                as_aux_lemma =>
                  refine wpAnyH_ready (rs := [5]) (by kernel_rfl) (by simp) ?_
                  refine AllReadyH.cons1 ⟨?_, ?_, fun K hK => ?_⟩ ?_
                  rotate_left
                  · simp only [List.getElem?_toArray, List.getElem?_cons_zero, List.getElem?_cons_succ]; rfl
                  · have hbl := hHeld.2
                    refine step_append_any _ rfl (.tmp 47) (.tmp 49) 22 rfl W5.heap.size 24 ir _ 3 24 Try.underlying22 hir.out zr0 zr1 zr2 rfl (by decide) (.slice A1 R.length c1) R.length (rucs R) rfl (World.ownsRow.alloc ho1 (.cells #[.slice none 0 0, .int .i64 0, .bool false] 32)) _ _ 1 1 (ruc r) rfl (reads3 (blk_alloc' (o := .cells #[.slice none 0 0, .int .i64 0, .bool false] 32) hgc)) (by unfold ruc; simp [Value.oneCell']) hx0.out.2.1 hx0.out.2.2 hbl.size ?_
                    intro v2 w7 ho2 hg2 ha2
                    obtain ⟨A2, c2, rfl, hcap2⟩ := own_slice_cap ho2
                    have hb7 := hbl.grown hg2 hbl.size (own_base ho1)
                    have hz7 := hb7.size
                    have hzf := zkeep2 hg2 (World.ownsRow.alloc ho1 (.cells #[.slice none 0 0, .int .i64 0, .bool false] 32)) (heap_alloc_new w6 (.cells #[.slice none 0 0, .int .i64 0, .bool false] 32))
                    refine hK.out _ _ (KS.out _ hb7) (fun hHeld => ?_)
                    clear hK K
                    try simp only [Act.put, List.setIfInBounds_toArray, List.set_cons_zero, List.set_cons_succ]
                    as_aux_lemma =>
                      refine wpAnyH_ready (rs := [6]) (by kernel_rfl) (by simp) ?_
                      refine AllReadyH.cons1 ⟨?_, ?_, fun K hK => ?_⟩ ?_
                      rotate_left
                      · simp only [List.getElem?_toArray, List.getElem?_cons_zero, List.getElem?_cons_succ]; rfl
                      · rw [if_pos (by rfl)]
                        go_simp
                        go_at_call 14; (with_reducible refine (C2.out _ _ _ ho2).mono ?_); rintro e w8 ⟨A3, c3, ks3, rfl, hk8, hm8, hb8⟩
                        have hsz8 := Nat.le_trans hHeld.2.size hb8.size
                        have hzf := (hb8.block _ (lt_heap hzf)).trans hzf
                        refine hK.out _ _ (KS.out _ (hHeld.2.trans (hb8.mono hHeld.2.size))) (fun hHeld => ?_)
                        clear hK K
                        try simp only [Act.put, List.setIfInBounds_toArray, List.set_cons_zero, List.set_cons_succ]
                        refine wpAnyH_takeL 7 #[true, true, true, true, true, true, true, true, false, false, true, false, false] (by kernel_rfl) (by kernel_rfl) (by kernel_rfl) (by kernel_rfl) (fun d v c a w h => h) (by assumption) ⟨?_, ?_, ?_, Or.inl ⟨?_, ?_⟩, ?_⟩
                        rotate_left
                        · simp only [List.getElem?_toArray, List.getElem?_cons_zero, List.getElem?_cons_succ]; rfl
                        rotate_left
                        · rfl
                        · intro w hSw; (try dsimp only at hSw); go_simp; try (with_reducible rfl)
                        simp only [Act.put, List.setIfInBounds_toArray, List.set_cons_zero, List.set_cons_succ]
                        refine wpAnyH_takeL 8 #[true, true, true, true, true, true, true, true, true, false, true, false, false] (by kernel_rfl) (by kernel_rfl) (by kernel_rfl) (by kernel_rfl) (fun d v c a w h => h) (by assumption) ⟨?_, ?_, ?_, Or.inl ⟨?_, ?_⟩, ?_⟩
                        rotate_left
                        · simp only [List.getElem?_toArray, List.getElem?_cons_zero, List.getElem?_cons_succ]; rfl
                        rotate_left
                        · rfl
                        · intro w hSw; (try dsimp only at hSw); go_simp; try (with_reducible rfl)
                        simp only [Act.put, List.setIfInBounds_toArray, List.set_cons_zero, List.set_cons_succ]
                        refine wpAnyH_takeL 9 #[true, true, true, true, true, true, true, true, true, true, true, false, false] (by kernel_rfl) (by kernel_rfl) (by kernel_rfl) (by kernel_rfl) (fun d v c a w h => h) (by assumption) ⟨?_, ?_, ?_, Or.inl ⟨?_, ?_⟩, ?_⟩
                        rotate_left
                        · simp only [List.getElem?_toArray, List.getElem?_cons_zero, List.getElem?_cons_succ]; rfl
                        rotate_left
                        · rfl
                        · intro w hSw; (try dsimp only at hSw); go_simp; try (with_reducible rfl)
                        simp only [Act.put, List.setIfInBounds_toArray, List.set_cons_zero, List.set_cons_succ]
                        as_aux_lemma =>
                          have hbl8 := hHeld.2
                          refine wpAnyH_oneL 11 #[true, true, true, true, true, true, true, true, true, true, true, true, false] (by kernel_rfl) (by kernel_rfl) ⟨?_, ?_, fun K hK => ?_⟩
                          rotate_left
                          · simp only [List.getElem?_toArray, List.getElem?_cons_zero, List.getElem?_cons_succ]; rfl
                          have z0 := cell_of_row _ _ 0 _ _ (0, 0) hzf
                          have z1 := cell_of_row _ _ 1 _ _ (0, 0) hzf
                          have z2 := cell_of_row _ _ 2 _ _ (0, 0) hzf
                          have y0 := frozen_of_row _ _ 0 _ _ hzf
                          have y1 := frozen_of_row _ _ 1 _ _ hzf
                          have y2 := frozen_of_row _ _ 2 _ _ hzf
                          simp only [List.size_toArray, List.getElem?_toArray, List.getElem?_cons_zero, List.getElem?_cons_succ] at z0 z1 z2
                          rw [if_pos (by rfl)]
                          go_simp
                          have hx9 := zset hzf (.slice A3 ks3.length c3) (.int .i64 (neverF (R ++ [r])).1) (.bool (neverF (R ++ [r])).2)
                          have hk9 := hk8.chg hx9.2 (fun k cur hk e => by subst e; exact heap_ne hzf hk (by simp) rfl) (fun k cur hk e => by subst e; exact heap_ne hzf hk (by simp) rfl)
                          have hbl9 := hx9.2.below hbl8 hbl8.size (fun k e => by omega)
                          refine hK.out _ _ (KS.out _ hbl9) (fun hHeld => ?_)
                          replace hx9 := hx9.1
                          generalize World.setCell _ _ _ = W9 at *
                          clear hK K
                          try simp only [Act.put, List.setIfInBounds_toArray, List.set_cons_zero, List.set_cons_succ]
                          refine wpAnyH_takeL 12 #[true, true, true, true, true, true, true, true, true, true, true, true, true] (by kernel_rfl) (by kernel_rfl) (by kernel_rfl) (by kernel_rfl) (fun d v c a w h => h) (by assumption) ⟨?_, ?_, ?_, Or.inl ⟨?_, ?_⟩, ?_⟩
                          rotate_left
                          · simp only [List.getElem?_toArray, List.getElem?_cons_zero, List.getElem?_cons_succ]; rfl
                          rotate_left
                          · rfl
                          · intro w hSw; (try dsimp only at hSw); go_simp; try (with_reducible rfl)
                          simp only [Act.put, List.setIfInBounds_toArray, List.set_cons_zero, List.set_cons_succ]
                          refine wpAnyH_done (by kernel_rfl) (NoPanic.normal ?_) _
                          obtain ⟨q2, hq2⟩ : ∃ q2, q2 = w6.heap.size := ⟨_, rfl⟩
                          rw [← hq2] at hx9 ⊢
                          clear hq2
                          as_aux_lemma =>
                            have hbw9 := Lib.hid (hbw5.out.trans (hbl9.mono hbw5.out.size))
                            have HKB := Lib.hid hk9
                            have HX9 := Lib.hid hx9
                            have HM8 := Lib.hid hm8
                            have HBL := Lib.hid hbl9
                            clear hk9 hx9 hm8 hbl9
                            go_upto_region 8 with (go_at_call 15; (with_reducible refine (made_calls (B := w.heap.size) (hS.out.below hbw9.out) hbw9.out.size hs.out h30).mono ?_); rintro e w10 ⟨b, gx, rfl, ⟨base, A4, c4, hl1, hl2, hl3, ht4⟩, hx4, hb10⟩; have hl1' := Nat.le_trans HBL.out.size hl1; have hl2' := Nat.le_trans HBL.out.size hl2; have hbb := HBL.out.trans (hb10.mono HBL.out.size); have BX := Lib.hid (bo_below bx5.out hbb); rw [← hW5] at hl1' hl2' hbb; have H1 := Lib.hid (lw_mk RT.out hb3.out hk4.out hm4.out hb4.out hl1' hl2' hl3 ⟨_, _, ht4⟩ hbb); have H2 := Lib.hid (lw_mk2 RT2.out HKB.out HM8.out HX9.out hbw9.out hl1 hl2 hl3 ⟨_, _, ht4⟩ hb10); clear hl1 hl2 hl3 ht4 hx4 hb10 hl1' hl2' hbb)
                            generalize mkM L L.length = M at *
                            have MH : MoreH w w10 R r M base b num w3.heap.size w4.heap.size A c ks _ q2 A3 c3 ks3 := ⟨H1.out, H2.out, BX.out, G.out, fun h => more_ge RT2.out h G.out num, fun h => more_never RT.out hrb.out h G.out num, minM_rng G.out num, rightB_f hrb.out⟩
                            clear HKB HX9 HM8 HBL hbw9 H1 H2 BX bx5 hb45 hbw5 KS RD C2 hz5 hS5 hW5 X4 RT RT2 hb3 hb4 hk4 hm4 hR hS hs hrb
                            generalize w4.heap.size = q1 at *
                            have T1 := Lib.hid MH.t1
                            have T2 := Lib.hid MH.t2
                            have MN := Lib.hid MH.mn
                            have hnv := MH.nv
                            have hgm := MH.ge
                            have hwr := MH.wr
                            have hrf := MH.rf
                            have hc10 := MH.cells
                            replace MH := Lib.hid MH
                            generalize tl R M num = x at *
                            generalize tl (R ++ [r]) M num = y at *
                            go_region_held3 (fun w' => (w'.cell? { block := q1, off := 0 } = some (.slice A ks.length c) ∧ w'.cell? { block := q1, off := 1 } = some (.int .i64 (neverF R).1) ∧ w'.cell? { block := q1, off := 2 } = some (.bool (neverF R).2)) ∧ w'.cell? { block := q2, off := 0 } = some (.slice A3 ks3.length c3) ∧ w'.cell? { block := q2, off := 1 } = some (.int .i64 (neverF (R ++ [r])).1) ∧ w'.cell? { block := q2, off := 2 } = some (.bool (neverF (R ++ [r])).2)) (first | exact hc10 | exact hc11 | exact hc12)
                              ((first
                                | (go_at_call 16
                                   (with_reducible refine (T1.out _ (MH.out.below (below_drew (Below.refl _ _)))).mono ?_)
                                   rintro e w11 ⟨rfl, hb11⟩
                                   have MH1 := Lib.hid (MH.out.below ((below_drew (Below.refl _ _)).trans hb11))
                                   have hc11 := MH1.out.cells
                                   clear hb11)
                                | (go_at_call 16
                                   (with_reducible refine (T2.out _ MH1.out).mono ?_)
                                   rintro e w12 ⟨rfl, hb12⟩
                                   have MH2 := Lib.hid (MH1.out.below hb12)
                                   have hc12 := MH2.out.cells
                                   clear hb12)))
                            have hbx := MH2.out.bx.cells
                            clear MH MH1 hc10 hc11 T1 T2
                            have d1 : IntKind.i64.wrap (minM M num + r.f) = minM M num + r.f := IntWalk.i64_in _ (by omega)
                            have d2 : wrap64 (minM M num + r.f) = minM M num + r.f := (i64_w _).symm.trans d1
                            generalize minM M num = m at *
                            by_cases hk : r.k = 4
                            · have q4 : (r.k == 4) = true := beq_iff_eq.2 hk
                              obtain ⟨n1, n2⟩ := hnv hk
                              have q5 : decide (y ≤ x) = true := decide_eq_true n1
                              clear hk hgm hnv
                              cases hh : hit M num with
                              | false =>
                                rw [hh] at MN
                                clear hh n2
                                go_wp2_with (go_at_call 17; (with_reducible refine (MN.out _ MH2.out).mono ?_); rintro e w13 ⟨rfl, hb13⟩; have MH3 := Lib.hid (MH2.out.below hb13); have hbx3 := MH3.out.bx.cells; clear hb13)
                                go_ret
                                exact ⟨rfl, MH3.out.a.kt.bel⟩
                              | true =>
                                rw [hh] at MN
                                obtain ⟨n3, n4⟩ := n2 hh
                                have q6 : decide (y ≤ m + r.f) = true := decide_eq_true n3
                                clear hh n2
                                by_cases hxy : y = x
                                · have q7 : (y == x) = true := beq_iff_eq.2 hxy
                                  clear hxy n4
                                  go_wp2_with (go_at_call 17; (with_reducible refine (MN.out _ MH2.out).mono ?_); rintro e w13 ⟨rfl, hb13⟩; have MH3 := Lib.hid (MH2.out.below hb13); have hbx3 := MH3.out.bx.cells; clear hb13)
                                  go_ret
                                  exact ⟨rfl, MH3.out.a.kt.bel⟩
                                · have q7 : (y == x) = false := beq_eq_false_iff_ne.2 hxy
                                  have q8 : (y == m + r.f) = true := beq_iff_eq.2 (n4.resolve_left hxy)
                                  clear hxy n4
                                  go_wp2_with (go_at_call 17; (with_reducible refine (MN.out _ MH2.out).mono ?_); rintro e w13 ⟨rfl, hb13⟩; have MH3 := Lib.hid (MH2.out.below hb13); have hbx3 := MH3.out.bx.cells; clear hb13)
                                  go_ret
                                  exact ⟨rfl, MH3.out.a.kt.bel⟩
                            · have q4 : (r.k == 4) = false := beq_eq_false_iff_ne.2 hk
                              have q5 : decide (x ≤ y) = true := decide_eq_true (hgm hk)
                              clear hgm hnv hk
                              go_wp2
                              go_ret
                              exact ⟨rfl, MH2.out.a.kt.bel⟩
                      exact AllReadyH.nil
                  exact AllReadyH.nil
              exact AllReadyH.nil
          refine AllReadyH.cons1 ⟨?_, ?_, fun K hK => ?_⟩ ?_
          rotate_left
          · simp only [List.getElem?_toArray, List.getElem?_cons_zero, List.getElem?_cons_succ]; rfl
          · rw [if_pos (by rfl)]
            go_simp
            refine hK.out _ _ (KS.out _ (below_alloc hHeld.2 (.cells #[.slice none 0 0, .int .i64 0, .bool false] 32))) (fun hHeld => ?_)
            clear hK K
            try simp only [Act.put, List.setIfInBounds_toArray, List.set_cons_zero, List.set_cons_succ]
            as_aux_lemma =>
              refine wpAnyH_ready (rs := [2]) (by kernel_rfl) (by simp) ?_
              refine AllReadyH.cons1 ⟨?_, ?_, fun K hK => ?_⟩ ?_
              rotate_left
              · simp only [List.getElem?_toArray, List.getElem?_cons_zero, List.getElem?_cons_succ]; rfl
              · have hbl := hHeld.2
                have hga := (hn32 W5 (.cells #[.int .i64 r.k, .int .i64 r.l, .int .i64 r.f] 24) (.cells #[] 24) (.cells #[.slice none 0 0, .int .i64 0, .bool false] 32))
                refine step_append_any _ rfl (.tmp 45) (.tmp 46) 22 rfl W5.heap.size 24 ir _ 3 24 Try.underlying22 hir.out zr0 zr1 zr2 rfl (by decide) (.slice (some ⟨W5.heap.size + 1, 0, none⟩) 0 0) 0 [] rfl (own_e hga (by omega)) _ A0 R.length c0 (rucs R) rfl (RD.out _ hbl) (rucs_one R) hx0.out.1.1 hx0.out.1.2 hbl.size ?_
                intro v1 w6 ho1 hg1 ha1
                rw [Nat.zero_add, List.nil_append] at ho1
                obtain ⟨A1, c1, rfl, hcap1⟩ := own_slice_cap ho1
                have hb6 := hbl.grown hg1 hbl.size (fun k e => by simp [Value.ownBlock] at e; omega)
                have hgc := (hg1.block _ (lt_heap ((hn31 W5 (.cells #[.int .i64 r.k, .int .i64 r.l, .int .i64 r.f] 24) (.cells #[] 24) (.cells #[.slice none 0 0, .int .i64 0, .bool false] 32)))) (by simp [Value.ownBlock] <;> omega)).trans ((hn31 W5 (.cells #[.int .i64 r.k, .int .i64 r.l, .int .i64 r.f] 24) (.cells #[] 24) (.cells #[.slice none 0 0, .int .i64 0, .bool false] 32)))
                have hz6 := hb6.size
                have hzf := zkeep2 hg1 (own_e hga (show W5.heap.size ≤ _ by omega)) (hn33 W5 (.cells #[.int .i64 r.k, .int .i64 r.l, .int .i64 r.f] 24) (.cells #[] 24) (.cells #[.slice none 0 0, .int .i64 0, .bool false] 32))
                refine hK.out _ _ (KS.out _ hb6) (fun hHeld => ?_)
                clear hK K
                try simp only [Act.put, List.setIfInBounds_toArray, List.set_cons_zero, List.set_cons_succ]
                as_aux_lemma =>
                  refine wpAnyH_ready (rs := [5]) (by kernel_rfl) (by simp) ?_
                  refine AllReadyH.cons1 ⟨?_, ?_, fun K hK => ?_⟩ ?_
                  rotate_left
                  · simp only [List.getElem?_toArray, List.getElem?_cons_zero, List.getElem?_cons_succ]; rfl
                  · have hbl := hHeld.2
                    refine step_append_any _ rfl (.tmp 47) (.tmp 49) 22 rfl W5.heap.size 24 ir _ 3 24 Try.underlying22 hir.out zr0 zr1 zr2 rfl (by decide) (.slice A1 R.length c1) R.length (rucs R) rfl ho1 _ _ 1 1 (ruc r) rfl (reads3 hgc) (by unfold ruc; simp [Value.oneCell']) hx0.out.2.1 hx0.out.2.2 hbl.size ?_
                    intro v2 w7 ho2 hg2 ha2
                    obtain ⟨A2, c2, rfl, hcap2⟩ := own_slice_cap ho2
                    have hb7 := hbl.grown hg2 hbl.size (own_base ho1)
                    have hz7 := hb7.size
                    have hzf := zkeep2 hg2 ho1 hzf
                    refine hK.out _ _ (KS.out _ hb7) (fun hHeld => ?_)
                    clear hK K
                    try simp only [Act.put, List.setIfInBounds_toArray, List.set_cons_zero, List.set_cons_succ]
                    as_aux_lemma =>
                      refine wpAnyH_ready (rs := [6]) (by kernel_rfl) (by simp) ?_
                      refine AllReadyH.cons1 ⟨?_, ?_, fun K hK => ?_⟩ ?_
                      rotate_left
                      · simp only [List.getElem?_toArray, List.getElem?_cons_zero, List.getElem?_cons_succ]; rfl
                      · rw [if_pos (by rfl)]
                        go_simp
                        go_at_call 14; (with_reducible refine (C2.out _ _ _ ho2).mono ?_); rintro e w8 ⟨A3, c3, ks3, rfl, hk8, hm8, hb8⟩
                        have hsz8 := Nat.le_trans hHeld.2.size hb8.size
                        have hzf := (hb8.block _ (lt_heap hzf)).trans hzf
                        refine hK.out _ _ (KS.out _ (hHeld.2.trans (hb8.mono hHeld.2.size))) (fun hHeld => ?_)
                        clear hK K
                        try simp only [Act.put, List.setIfInBounds_toArray, List.set_cons_zero, List.set_cons_succ]
                        refine wpAnyH_takeL 7 #[true, true, true, true, true, true, true, true, false, false, true, false, false] (by kernel_rfl) (by kernel_rfl) (by kernel_rfl) (by kernel_rfl) (fun d v c a w h => h) (by assumption) ⟨?_, ?_, ?_, Or.inl ⟨?_, ?_⟩, ?_⟩
                        rotate_left
                        · simp only [List.getElem?_toArray, List.getElem?_cons_zero, List.getElem?_cons_succ]; rfl
                        rotate_left
                        · rfl
                        · intro w hSw; (try dsimp only at hSw); go_simp; try (with_reducible rfl)
                        simp only [Act.put, List.setIfInBounds_toArray, List.set_cons_zero, List.set_cons_succ]
                        refine wpAnyH_takeL 8 #[true, true, true, true, true, true, true, true, true, false, true, false, false] (by kernel_rfl) (by kernel_rfl) (by kernel_rfl) (by kernel_rfl) (fun d v c a w h => h) (by assumption) ⟨?_, ?_, ?_, Or.inl ⟨?_, ?_⟩, ?_⟩
                        rotate_left
                        · simp only [List.getElem?_toArray, List.getElem?_cons_zero, List.getElem?_cons_succ]; rfl
                        rotate_left
                        · rfl
                        · intro w hSw; (try dsimp only at hSw); go_simp; try (with_reducible rfl)
                        simp only [Act.put, List.setIfInBounds_toArray, List.set_cons_zero, List.set_cons_succ]
                        refine wpAnyH_takeL 9 #[true, true, true, true, true, true, true, true, true, true, true, false, false] (by kernel_rfl) (by kernel_rfl) (by kernel_rfl) (by kernel_rfl) (fun d v c a w h => h) (by assumption) ⟨?_, ?_, ?_, Or.inl ⟨?_, ?_⟩, ?_⟩
                        rotate_left
                        · simp only [List.getElem?_toArray, List.getElem?_cons_zero, List.getElem?_cons_succ]; rfl
                        rotate_left
                        · rfl
                        · intro w hSw; (try dsimp only at hSw); go_simp; try (with_reducible rfl)
                        simp only [Act.put, List.setIfInBounds_toArray, List.set_cons_zero, List.set_cons_succ]
                        as_aux_lemma =>
                          have hbl8 := hHeld.2
                          refine wpAnyH_oneL 11 #[true, true, true, true, true, true, true, true, true, true, true, true, false] (by kernel_rfl) (by kernel_rfl) ⟨?_, ?_, fun K hK => ?_⟩
                          rotate_left
                          · simp only [List.getElem?_toArray, List.getElem?_cons_zero, List.getElem?_cons_succ]; rfl
                          have z0 := cell_of_row _ _ 0 _ _ (0, 0) hzf
                          have z1 := cell_of_row _ _ 1 _ _ (0, 0) hzf
                          have z2 := cell_of_row _ _ 2 _ _ (0, 0) hzf
                          have y0 := frozen_of_row _ _ 0 _ _ hzf
                          have y1 := frozen_of_row _ _ 1 _ _ hzf
                          have y2 := frozen_of_row _ _ 2 _ _ hzf
                          simp only [List.size_toArray, List.getElem?_toArray, List.getElem?_cons_zero, List.getElem?_cons_succ] at z0 z1 z2
                          rw [if_pos (by rfl)]
                          go_simp
                          have hx9 := zset hzf (.slice A3 ks3.length c3) (.int .i64 (neverF (R ++ [r])).1) (.bool (neverF (R ++ [r])).2)
                          have hk9 := hk8.chg hx9.2 (fun k cur hk e => by subst e; exact heap_ne hzf hk (by simp) rfl) (fun k cur hk e => by subst e; exact heap_ne hzf hk (by simp) rfl)
                          have hbl9 := hx9.2.below hbl8 hbl8.size (fun k e => by omega)
                          refine hK.out _ _ (KS.out _ hbl9) (fun hHeld => ?_)
                          replace hx9 := hx9.1
                          generalize World.setCell _ _ _ = W9 at *
                          clear hK K
                          try simp only [Act.put, List.setIfInBounds_toArray, List.set_cons_zero, List.set_cons_succ]
                          refine wpAnyH_takeL 12 #[true, true, true, true, true, true, true, true, true, true, true, true, true] (by kernel_rfl) (by kernel_rfl) (by kernel_rfl) (by kernel_rfl) (fun d v c a w h => h) (by assumption) ⟨?_, ?_, ?_, Or.inl ⟨?_, ?_⟩, ?_⟩
                          rotate_left
                          · simp only [List.getElem?_toArray, List.getElem?_cons_zero, List.getElem?_cons_succ]; rfl
                          rotate_left
                          · rfl
                          · intro w hSw; (try dsimp only at hSw); go_simp; try (with_reducible rfl)
                          simp only [Act.put, List.setIfInBounds_toArray, List.set_cons_zero, List.set_cons_succ]
                          refine wpAnyH_done (by kernel_rfl) (NoPanic.normal ?_) _
                          obtain ⟨q2, hq2⟩ : ∃ q2, q2 = W5.heap.size + 1 + 1 := ⟨_, rfl⟩
                          rw [← hq2] at hx9 ⊢
                          clear hq2
                          as_aux_lemma =>
                            have hbw9 := Lib.hid (hbw5.out.trans (hbl9.mono hbw5.out.size))
                            have HKB := Lib.hid hk9
                            have HX9 := Lib.hid hx9
                            have HM8 := Lib.hid hm8
                            have HBL := Lib.hid hbl9
                            clear hk9 hx9 hm8 hbl9
                            go_upto_region 8 with (go_at_call 15; (with_reducible refine (made_calls (B := w.heap.size) (hS.out.below hbw9.out) hbw9.out.size hs.out h30).mono ?_); rintro e w10 ⟨b, gx, rfl, ⟨base, A4, c4, hl1, hl2, hl3, ht4⟩, hx4, hb10⟩; have hl1' := Nat.le_trans HBL.out.size hl1; have hl2' := Nat.le_trans HBL.out.size hl2; have hbb := HBL.out.trans (hb10.mono HBL.out.size); have BX := Lib.hid (bo_below bx5.out hbb); rw [← hW5] at hl1' hl2' hbb; have H1 := Lib.hid (lw_mk RT.out hb3.out hk4.out hm4.out hb4.out hl1' hl2' hl3 ⟨_, _, ht4⟩ hbb); have H2 := Lib.hid (lw_mk2 RT2.out HKB.out HM8.out HX9.out hbw9.out hl1 hl2 hl3 ⟨_, _, ht4⟩ hb10); clear hl1 hl2 hl3 ht4 hx4 hb10 hl1' hl2' hbb)
                            generalize mkM L L.length = M at *
                            have MH : MoreH w w10 R r M base b num w3.heap.size w4.heap.size A c ks _ q2 A3 c3 ks3 := ⟨H1.out, H2.out, BX.out, G.out, fun h => more_ge RT2.out h G.out num, fun h => more_never RT.out hrb.out h G.out num, minM_rng G.out num, rightB_f hrb.out⟩
                            clear HKB HX9 HM8 HBL hbw9 H1 H2 BX bx5 hb45 hbw5 KS RD C2 hz5 hS5 hW5 X4 RT RT2 hb3 hb4 hk4 hm4 hR hS hs hrb
                            generalize w4.heap.size = q1 at *
                            have T1 := Lib.hid MH.t1
                            have T2 := Lib.hid MH.t2
                            have MN := Lib.hid MH.mn
                            have hnv := MH.nv
                            have hgm := MH.ge
                            have hwr := MH.wr
                            have hrf := MH.rf
                            have hc10 := MH.cells
                            replace MH := Lib.hid MH
                            generalize tl R M num = x at *
                            generalize tl (R ++ [r]) M num = y at *
                            go_region_held3 (fun w' => (w'.cell? { block := q1, off := 0 } = some (.slice A ks.length c) ∧ w'.cell? { block := q1, off := 1 } = some (.int .i64 (neverF R).1) ∧ w'.cell? { block := q1, off := 2 } = some (.bool (neverF R).2)) ∧ w'.cell? { block := q2, off := 0 } = some (.slice A3 ks3.length c3) ∧ w'.cell? { block := q2, off := 1 } = some (.int .i64 (neverF (R ++ [r])).1) ∧ w'.cell? { block := q2, off := 2 } = some (.bool (neverF (R ++ [r])).2)) (first | exact hc10 | exact hc11 | exact hc12)
                              ((first
                                | (go_at_call 16
                                   (with_reducible refine (T1.out _ (MH.out.below (below_drew (Below.refl _ _)))).mono ?_)
                                   rintro e w11 ⟨rfl, hb11⟩
                                   have MH1 := Lib.hid (MH.out.below ((below_drew (Below.refl _ _)).trans hb11))
                                   have hc11 := MH1.out.cells
                                   clear hb11)
                                | (go_at_call 16
                                   (with_reducible refine (T2.out _ MH1.out).mono ?_)
                                   rintro e w12 ⟨rfl, hb12⟩
                                   have MH2 := Lib.hid (MH1.out.below hb12)
                                   have hc12 := MH2.out.cells
                                   clear hb12)))
                            have hbx := MH2.out.bx.cells
                            clear MH MH1 hc10 hc11 T1 T2
                            have d1 : IntKind.i64.wrap (minM M num + r.f) = minM M num + r.f := IntWalk.i64_in _ (by omega)
                            have d2 : wrap64 (minM M num + r.f) = minM M num + r.f := (i64_w _).symm.trans d1
                            generalize minM M num = m at *
                            by_cases hk : r.k = 4
                            · have q4 : (r.k == 4) = true := beq_iff_eq.2 hk
                              obtain ⟨n1, n2⟩ := hnv hk
                              have q5 : decide (y ≤ x) = true := decide_eq_true n1
                              clear hk hgm hnv
                              cases hh : hit M num with
                              | false =>
                                rw [hh] at MN
                                clear hh n2
                                go_wp2_with (go_at_call 17; (with_reducible refine (MN.out _ MH2.out).mono ?_); rintro e w13 ⟨rfl, hb13⟩; have MH3 := Lib.hid (MH2.out.below hb13); have hbx3 := MH3.out.bx.cells; clear hb13)
                                go_ret
                                exact ⟨rfl, MH3.out.a.kt.bel⟩
                              | true =>
                                rw [hh] at MN
                                obtain ⟨n3, n4⟩ := n2 hh
                                have q6 : decide (y ≤ m + r.f) = true := decide_eq_true n3
                                clear hh n2
                                by_cases hxy : y = x
                                · have q7 : (y == x) = true := beq_iff_eq.2 hxy
                                  clear hxy n4
                                  go_wp2_with (go_at_call 17; (with_reducible refine (MN.out _ MH2.out).mono ?_); rintro e w13 ⟨rfl, hb13⟩; have MH3 := Lib.hid (MH2.out.below hb13); have hbx3 := MH3.out.bx.cells; clear hb13)
                                  go_ret
                                  exact ⟨rfl, MH3.out.a.kt.bel⟩
                                · have q7 : (y == x) = false := beq_eq_false_iff_ne.2 hxy
                                  have q8 : (y == m + r.f) = true := beq_iff_eq.2 (n4.resolve_left hxy)
                                  clear hxy n4
                                  go_wp2_with (go_at_call 17; (with_reducible refine (MN.out _ MH2.out).mono ?_); rintro e w13 ⟨rfl, hb13⟩; have MH3 := Lib.hid (MH2.out.below hb13); have hbx3 := MH3.out.bx.cells; clear hb13)
                                  go_ret
                                  exact ⟨rfl, MH3.out.a.kt.bel⟩
                            · have q4 : (r.k == 4) = false := beq_eq_false_iff_ne.2 hk
                              have q5 : decide (x ≤ y) = true := decide_eq_true (hgm hk)
                              clear hgm hnv hk
                              go_wp2
                              go_ret
                              exact ⟨rfl, MH2.out.a.kt.bel⟩
                      exact AllReadyH.nil
                  exact AllReadyH.nil
              exact AllReadyH.nil
          exact AllReadyH.nil
      refine AllReadyH.cons1 ⟨?_, ?_, fun K hK => ?_⟩ ?_
      rotate_left
      · simp only [List.getElem?_toArray, List.getElem?_cons_zero, List.getElem?_cons_succ]; rfl
      · rw [if_pos (by rfl)]
        go_simp
        refine hK.out _ _ (KS.out _ (below_alloc hHeld.2 (.cells #[.slice none 0 0, .int .i64 0, .bool false] 32))) (fun hHeld => ?_)
        clear hK K
        try simp only [Act.put, List.setIfInBounds_toArray, List.set_cons_zero, List.set_cons_succ]
        as_aux_lemma =>
          refine wpAnyH_ready (rs := [0]) (by kernel_rfl) (by simp) ?_
          refine AllReadyH.cons1 ⟨?_, ?_, fun K hK => ?_⟩ ?_
          rotate_left
          · simp only [List.getElem?_toArray, List.getElem?_cons_zero, List.getElem?_cons_succ]; rfl
          · rw [if_pos (by rfl)]
            go_simp
            refine hK.out _ _ (KS.out _ (below_alloc hHeld.2 (.cells #[] 24))) (fun hHeld => ?_)
            clear hK K
            try simp only [Act.put, List.setIfInBounds_toArray, List.set_cons_zero, List.set_cons_succ]
            as_aux_lemma =>
              refine wpAnyH_ready (rs := [2]) (by kernel_rfl) (by simp) ?_
              refine AllReadyH.cons1 ⟨?_, ?_, fun K hK => ?_⟩ ?_
              rotate_left
              · simp only [List.getElem?_toArray, List.getElem?_cons_zero, List.getElem?_cons_succ]; rfl
              · have hbl := hHeld.2
                have hga := (hn33 W5 (.cells #[.int .i64 r.k, .int .i64 r.l, .int .i64 r.f] 24) (.cells #[.slice none 0 0, .int .i64 0, .bool false] 32) (.cells #[] 24))
                refine step_append_any _ rfl (.tmp 45) (.tmp 46) 22 rfl W5.heap.size 24 ir _ 3 24 Try.underlying22 hir.out zr0 zr1 zr2 rfl (by decide) (.slice (some ⟨W5.heap.size + 1 + 1, 0, none⟩) 0 0) 0 [] rfl (own_e hga (by omega)) _ A0 R.length c0 (rucs R) rfl (RD.out _ hbl) (rucs_one R) hx0.out.1.1 hx0.out.1.2 hbl.size ?_
                intro v1 w6 ho1 hg1 ha1
                rw [Nat.zero_add, List.nil_append] at ho1
                obtain ⟨A1, c1, rfl, hcap1⟩ := own_slice_cap ho1
                have hb6 := hbl.grown hg1 hbl.size (fun k e => by simp [Value.ownBlock] at e; omega)
                have hgc := (hg1.block _ (lt_heap ((hn31 W5 (.cells #[.int .i64 r.k, .int .i64 r.l, .int .i64 r.f] 24) (.cells #[.slice none 0 0, .int .i64 0, .bool false] 32) (.cells #[] 24)))) (by simp [Value.ownBlock] <;> omega)).trans ((hn31 W5 (.cells #[.int .i64 r.k, .int .i64 r.l, .int .i64 r.f] 24) (.cells #[.slice none 0 0, .int .i64 0, .bool false] 32) (.cells #[] 24)))
                have hz6 := hb6.size
                have hzf := zkeep2 hg1 (own_e hga (show W5.heap.size ≤ _ by omega)) (hn32 W5 (.cells #[.int .i64 r.k, .int .i64 r.l, .int .i64 r.f] 24) (.cells #[.slice none 0 0, .int .i64 0, .bool false] 32) (.cells #[] 24))
                refine hK.out _ _ (KS.out _ hb6) (fun hHeld => ?_)
                clear hK K
                try simp only [Act.put, List.setIfInBounds_toArray, List.set_cons_zero, List.set_cons_succ]
                as_aux_lemma =>
                  refine wpAnyH_ready (rs := [5]) (by kernel_rfl) (by simp) ?_
                  refine AllReadyH.cons1 ⟨?_, ?_, fun K hK => ?_⟩ ?_
                  rotate_left
                  · simp only [List.getElem?_toArray, List.getElem?_cons_zero, List.getElem?_cons_succ]; rfl
                  · have hbl := hHeld.2
                    refine step_append_any _ rfl (.tmp 47) (.tmp 49) 22 rfl W5.heap.size 24 ir _ 3 24 Try.underlying22 hir.out zr0 zr1 zr2 rfl (by decide) (.slice A1 R.length c1) R.length (rucs R) rfl ho1 _ _ 1 1 (ruc r) rfl (reads3 hgc) (by unfold ruc; simp [Value.oneCell']) hx0.out.2.1 hx0.out.2.2 hbl.size ?_
                    intro v2 w7 ho2 hg2 ha2
                    obtain ⟨A2, c2, rfl, hcap2⟩ := own_slice_cap ho2
                    have hb7 := hbl.grown hg2 hbl.size (own_base ho1)
                    have hz7 := hb7.size
                    have hzf := zkeep2 hg2 ho1 hzf
                    refine hK.out _ _ (KS.out _ hb7) (fun hHeld => ?_)
                    clear hK K
                    try simp only [Act.put, List.setIfInBounds_toArray, List.set_cons_zero, List.set_cons_succ]
                    as_aux_lemma =>
                      refine wpAnyH_ready (rs := [6]) (by kernel_rfl) (by simp) ?_
                      refine AllReadyH.cons1 ⟨?_, ?_, fun K hK => ?_⟩ ?_
                      rotate_left
                      · simp only [List.getElem?_toArray, List.getElem?_cons_zero, List.getElem?_cons_succ]; rfl
                      · rw [if_pos (by rfl)]
                        go_simp
                        go_at_call 14; (with_reducible refine (C2.out _ _ _ ho2).mono ?_); rintro e w8 ⟨A3, c3, ks3, rfl, hk8, hm8, hb8⟩
                        have hsz8 := Nat.le_trans hHeld.2.size hb8.size
                        have hzf := (hb8.block _ (lt_heap hzf)).trans hzf
                        refine hK.out _ _ (KS.out _ (hHeld.2.trans (hb8.mono hHeld.2.size))) (fun hHeld => ?_)
                        clear hK K
                        try simp only [Act.put, List.setIfInBounds_toArray, List.set_cons_zero, List.set_cons_succ]
                        refine wpAnyH_takeL 7 #[true, true, true, true, true, true, true, true, false, false, true, false, false] (by kernel_rfl) (by kernel_rfl) (by kernel_rfl) (by kernel_rfl) (fun d v c a w h => h) (by assumption) ⟨?_, ?_, ?_, Or.inl ⟨?_, ?_⟩, ?_⟩
                        rotate_left
                        · simp only [List.getElem?_toArray, List.getElem?_cons_zero, List.getElem?_cons_succ]; rfl
                        rotate_left
                        · rfl
                        · intro w hSw; (try dsimp only at hSw); go_simp; try (with_reducible rfl)
                        simp only [Act.put, List.setIfInBounds_toArray, List.set_cons_zero, List.set_cons_succ]
                        refine wpAnyH_takeL 8 #[true, true, true, true, true, true, true, true, true, false, true, false, false] (by kernel_rfl) (by kernel_rfl) (by kernel_rfl) (by kernel_rfl) (fun d v c a w h => h) (by assumption) ⟨?_, ?_, ?_, Or.inl ⟨?_, ?_⟩, ?_⟩
                        rotate_left
                        · simp only [List.getElem?_toArray, List.getElem?_cons_zero, List.getElem?_cons_succ]; rfl
                        rotate_left
                        · rfl
                        · intro w hSw; (try dsimp only at hSw); go_simp; try (with_reducible rfl)
                        simp only [Act.put, List.setIfInBounds_toArray, List.set_cons_zero, List.set_cons_succ]
                        refine wpAnyH_takeL 9 #[true, true, true, true, true, true, true, true, true, true, true, false, false] (by kernel_rfl) (by kernel_rfl) (by kernel_rfl) (by kernel_rfl) (fun d v c a w h => h) (by assumption) ⟨?_, ?_, ?_, Or.inl ⟨?_, ?_⟩, ?_⟩
                        rotate_left
                        · simp only [List.getElem?_toArray, List.getElem?_cons_zero, List.getElem?_cons_succ]; rfl
                        rotate_left
                        · rfl
                        · intro w hSw; (try dsimp only at hSw); go_simp; try (with_reducible rfl)
                        simp only [Act.put, List.setIfInBounds_toArray, List.set_cons_zero, List.set_cons_succ]
                        as_aux_lemma =>
                          have hbl8 := hHeld.2
                          refine wpAnyH_oneL 11 #[true, true, true, true, true, true, true, true, true, true, true, true, false] (by kernel_rfl) (by kernel_rfl) ⟨?_, ?_, fun K hK => ?_⟩
                          rotate_left
                          · simp only [List.getElem?_toArray, List.getElem?_cons_zero, List.getElem?_cons_succ]; rfl
                          have z0 := cell_of_row _ _ 0 _ _ (0, 0) hzf
                          have z1 := cell_of_row _ _ 1 _ _ (0, 0) hzf
                          have z2 := cell_of_row _ _ 2 _ _ (0, 0) hzf
                          have y0 := frozen_of_row _ _ 0 _ _ hzf
                          have y1 := frozen_of_row _ _ 1 _ _ hzf
                          have y2 := frozen_of_row _ _ 2 _ _ hzf
                          simp only [List.size_toArray, List.getElem?_toArray, List.getElem?_cons_zero, List.getElem?_cons_succ] at z0 z1 z2
                          rw [if_pos (by rfl)]
                          go_simp
                          have hx9 := zset hzf (.slice A3 ks3.length c3) (.int .i64 (neverF (R ++ [r])).1) (.bool (neverF (R ++ [r])).2)
                          have hk9 := hk8.chg hx9.2 (fun k cur hk e => by subst e; exact heap_ne hzf hk (by simp) rfl) (fun k cur hk e => by subst e; exact heap_ne hzf hk (by simp) rfl)
                          have hbl9 := hx9.2.below hbl8 hbl8.size (fun k e => by omega)
                          refine hK.out _ _ (KS.out _ hbl9) (fun hHeld => ?_)
                          replace hx9 := hx9.1
                          generalize World.setCell _ _ _ = W9 at *
                          clear hK K
                          try simp only [Act.put, List.setIfInBounds_toArray, List.set_cons_zero, List.set_cons_succ]
                          refine wpAnyH_takeL 12 #[true, true, true, true, true, true, true, true, true, true, true, true, true] (by kernel_rfl) (by kernel_rfl) (by kernel_rfl) (by kernel_rfl) (fun d v c a w h => h) (by assumption) ⟨?_, ?_, ?_, Or.inl ⟨?_, ?_⟩, ?_⟩
                          rotate_left
                          · simp only [List.getElem?_toArray, List.getElem?_cons_zero, List.getElem?_cons_succ]; rfl
                          rotate_left
                          · rfl
                          · intro w hSw; (try dsimp only at hSw); go_simp; try (with_reducible rfl)
                          simp only [Act.put, List.setIfInBounds_toArray, List.set_cons_zero, List.set_cons_succ]
                          refine wpAnyH_done (by kernel_rfl) (NoPanic.normal ?_) _
                          obtain ⟨q2, hq2⟩ : ∃ q2, q2 = W5.heap.size + 1 := ⟨_, rfl⟩
                          rw [← hq2] at hx9 ⊢
                          clear hq2
                          as_aux_lemma =>
                            have hbw9 := Lib.hid (hbw5.out.trans (hbl9.mono hbw5.out.size))
                            have HKB := Lib.hid hk9
                            have HX9 := Lib.hid hx9
                            have HM8 := Lib.hid hm8
                            have HBL := Lib.hid hbl9
                            clear hk9 hx9 hm8 hbl9
                            go_upto_region 8 with (go_at_call 15; (with_reducible refine (made_calls (B := w.heap.size) (hS.out.below hbw9.out) hbw9.out.size hs.out h30).mono ?_); rintro e w10 ⟨b, gx, rfl, ⟨base, A4, c4, hl1, hl2, hl3, ht4⟩, hx4, hb10⟩; have hl1' := Nat.le_trans HBL.out.size hl1; have hl2' := Nat.le_trans HBL.out.size hl2; have hbb := HBL.out.trans (hb10.mono HBL.out.size); have BX := Lib.hid (bo_below bx5.out hbb); rw [← hW5] at hl1' hl2' hbb; have H1 := Lib.hid (lw_mk RT.out hb3.out hk4.out hm4.out hb4.out hl1' hl2' hl3 ⟨_, _, ht4⟩ hbb); have H2 := Lib.hid (lw_mk2 RT2.out HKB.out HM8.out HX9.out hbw9.out hl1 hl2 hl3 ⟨_, _, ht4⟩ hb10); clear hl1 hl2 hl3 ht4 hx4 hb10 hl1' hl2' hbb)
                            generalize mkM L L.length = M at *
                            have MH : MoreH w w10 R r M base b num w3.heap.size w4.heap.size A c ks _ q2 A3 c3 ks3 := ⟨H1.out, H2.out, BX.out, G.out, fun h => more_ge RT2.out h G.out num, fun h => more_never RT.out hrb.out h G.out num, minM_rng G.out num, rightB_f hrb.out⟩
                            clear HKB HX9 HM8 HBL hbw9 H1 H2 BX bx5 hb45 hbw5 KS RD C2 hz5 hS5 hW5 X4 RT RT2 hb3 hb4 hk4 hm4 hR hS hs hrb
                            generalize w4.heap.size = q1 at *
                            have T1 := Lib.hid MH.t1
                            have T2 := Lib.hid MH.t2
                            have MN := Lib.hid MH.mn
                            have hnv := MH.nv
                            have hgm := MH.ge
                            have hwr := MH.wr
                            have hrf := MH.rf
                            have hc10 := MH.cells
                            replace MH := Lib.hid MH
                            generalize tl R M num = x at *
                            generalize tl (R ++ [r]) M num = y at *
                            go_region_held3 (fun w' => (w'.cell? { block := q1, off := 0 } = some (.slice A ks.length c) ∧ w'.cell? { block := q1, off := 1 } = some (.int .i64 (neverF R).1) ∧ w'.cell? { block := q1, off := 2 } = some (.bool (neverF R).2)) ∧ w'.cell? { block := q2, off := 0 } = some (.slice A3 ks3.length c3) ∧ w'.cell? { block := q2, off := 1 } = some (.int .i64 (neverF (R ++ [r])).1) ∧ w'.cell? { block := q2, off := 2 } = some (.bool (neverF (R ++ [r])).2)) (first | exact hc10 | exact hc11 | exact hc12)
                              ((first
                                | (go_at_call 16
                                   (with_reducible refine (T1.out _ (MH.out.below (below_drew (Below.refl _ _)))).mono ?_)
                                   rintro e w11 ⟨rfl, hb11⟩
                                   have MH1 := Lib.hid (MH.out.below ((below_drew (Below.refl _ _)).trans hb11))
                                   have hc11 := MH1.out.cells
                                   clear hb11)
                                | (go_at_call 16
                                   (with_reducible refine (T2.out _ MH1.out).mono ?_)
                                   rintro e w12 ⟨rfl, hb12⟩
                                   have MH2 := Lib.hid (MH1.out.below hb12)
                                   have hc12 := MH2.out.cells
                                   clear hb12)))
                            have hbx := MH2.out.bx.cells
                            clear MH MH1 hc10 hc11 T1 T2
                            have d1 : IntKind.i64.wrap (minM M num + r.f) = minM M num + r.f := IntWalk.i64_in _ (by omega)
                            have d2 : wrap64 (minM M num + r.f) = minM M num + r.f := (i64_w _).symm.trans d1
                            generalize minM M num = m at *
                            by_cases hk : r.k = 4
                            · have q4 : (r.k == 4) = true := beq_iff_eq.2 hk
                              obtain ⟨n1, n2⟩ := hnv hk
                              have q5 : decide (y ≤ x) = true := decide_eq_true n1
                              clear hk hgm hnv
                              cases hh : hit M num with
                              | false =>
                                rw [hh] at MN
                                clear hh n2
                                go_wp2_with (go_at_call 17; (with_reducible refine (MN.out _ MH2.out).mono ?_); rintro e w13 ⟨rfl, hb13⟩; have MH3 := Lib.hid (MH2.out.below hb13); have hbx3 := MH3.out.bx.cells; clear hb13)
                                go_ret
                                exact ⟨rfl, MH3.out.a.kt.bel⟩
                              | true =>
                                rw [hh] at MN
                                obtain ⟨n3, n4⟩ := n2 hh
                                have q6 : decide (y ≤ m + r.f) = true := decide_eq_true n3
                                clear hh n2
                                by_cases hxy : y = x
                                · have q7 : (y == x) = true := beq_iff_eq.2 hxy
                                  clear hxy n4
                                  go_wp2_with (go_at_call 17; (with_reducible refine (MN.out _ MH2.out).mono ?_); rintro e w13 ⟨rfl, hb13⟩; have MH3 := Lib.hid (MH2.out.below hb13); have hbx3 := MH3.out.bx.cells; clear hb13)
                                  go_ret
                                  exact ⟨rfl, MH3.out.a.kt.bel⟩
                                · have q7 : (y == x) = false := beq_eq_false_iff_ne.2 hxy
                                  have q8 : (y == m + r.f) = true := beq_iff_eq.2 (n4.resolve_left hxy)
                                  clear hxy n4
                                  go_wp2_with (go_at_call 17; (with_reducible refine (MN.out _ MH2.out).mono ?_); rintro e w13 ⟨rfl, hb13⟩; have MH3 := Lib.hid (MH2.out.below hb13); have hbx3 := MH3.out.bx.cells; clear hb13)
                                  go_ret
                                  exact ⟨rfl, MH3.out.a.kt.bel⟩
                            · have q4 : (r.k == 4) = false := beq_eq_false_iff_ne.2 hk
                              have q5 : decide (x ≤ y) = true := decide_eq_true (hgm hk)
                              clear hgm hnv hk
                              go_wp2
                              go_ret
                              exact ⟨rfl, MH2.out.a.kt.bel⟩
                      exact AllReadyH.nil
                  exact AllReadyH.nil
              exact AllReadyH.nil
          exact AllReadyH.nil
      exact AllReadyH.nil
  refine AllReadyH.cons1 ⟨?_, ?_, fun K hK => ?_⟩ ?_
  rotate_left
  · simp only [List.getElem?_toArray, List.getElem?_cons_zero, List.getElem?_cons_succ]; rfl
  · rw [if_pos (by rfl)]
    go_simp
    refine hK.out _ _ (KS.out _ (below_alloc hHeld.2 (.cells #[.slice none 0 0, .int .i64 0, .bool false] 32))) (fun hHeld => ?_)
    clear hK K
    try simp only [Act.put, List.setIfInBounds_toArray, List.set_cons_zero, List.set_cons_succ]
    as_aux_lemma =>
      refine wpAnyH_ready (rs := [0, 4]) (by kernel_rfl) (by simp) ?_
      refine AllReadyH.cons1 ⟨?_, ?_, fun K hK => ?_⟩ ?_
      rotate_left
      · simp only [List.getElem?_toArray, List.getElem?_cons_zero, List.getElem?_cons_succ]; rfl
      · rw [if_pos (by rfl)]
        go_simp
        refine hK.out _ _ (KS.out _ (below_alloc hHeld.2 (.cells #[] 24))) (fun hHeld => ?_)
        clear hK K
        try simp only [Act.put, List.setIfInBounds_toArray, List.set_cons_zero, List.set_cons_succ]
        as_aux_lemma =>
          refine wpAnyH_ready (rs := [2, 4]) (by kernel_rfl) (by simp) ?_
          refine AllReadyH.cons1 ⟨?_, ?_, fun K hK => ?_⟩ ?_
          rotate_left
          · simp only [List.getElem?_toArray, List.getElem?_cons_zero, List.getElem?_cons_succ]; rfl
          · have hbl := hHeld.2
            have hga := (hn22 W5 (.cells #[.slice none 0 0, .int .i64 0, .bool false] 32) (.cells #[] 24))
            refine step_append_any _ rfl (.tmp 45) (.tmp 46) 22 rfl W5.heap.size 24 ir _ 3 24 Try.underlying22 hir.out zr0 zr1 zr2 rfl (by decide) (.slice (some ⟨W5.heap.size + 1, 0, none⟩) 0 0) 0 [] rfl (own_e hga (by omega)) _ A0 R.length c0 (rucs R) rfl (RD.out _ hbl) (rucs_one R) hx0.out.1.1 hx0.out.1.2 hbl.size ?_
            intro v1 w6 ho1 hg1 ha1
            rw [Nat.zero_add, List.nil_append] at ho1
            obtain ⟨A1, c1, rfl, hcap1⟩ := own_slice_cap ho1
            have hb6 := hbl.grown hg1 hbl.size (fun k e => by simp [Value.ownBlock] at e; omega)
            have hz6 := hb6.size
            have hzf := zkeep2 hg1 (own_e hga (show W5.heap.size ≤ _ by omega)) (hn21 W5 (.cells #[.slice none 0 0, .int .i64 0, .bool false] 32) (.cells #[] 24))
            refine hK.out _ _ (KS.out _ hb6) (fun hHeld => ?_)
            clear hK K
            try simp only [Act.put, List.setIfInBounds_toArray, List.set_cons_zero, List.set_cons_succ]
            as_aux_lemma =>
              refine wpAnyH_ready (rs := [4]) (by kernel_rfl) (by simp) ?_
              refine AllReadyH.cons1 ⟨?_, ?_, fun K hK => ?_⟩ ?_
              rotate_left
              · simp only [List.getElem?_toArray, List.getElem?_cons_zero, List.getElem?_cons_succ]; rfl
              · rw [if_pos (by rfl)]
                go_simp
                refine hK.out _ _ (KS.out _ (below_alloc hHeld.2 (.cells #[.int .i64 r.k, .int .i64 r.l, .int .i64 r.f] 24))) (fun hHeld => ?_)
                clear hK K
                try simp only [Act.put, List.setIfInBounds_toArray, List.set_cons_zero, List.set_cons_succ]
                as_aux_lemma =>
                  refine wpAnyH_ready (rs := [5]) (by kernel_rfl) (by simp) ?_
                  refine AllReadyH.cons1 ⟨?_, ?_, fun K hK => ?_⟩ ?_
                  rotate_left
                  · simp only [List.getElem?_toArray, List.getElem?_cons_zero, List.getElem?_cons_succ]; rfl
                  · have hbl := hHeld.2
                    refine step_append_any _ rfl (.tmp 47) (.tmp 49) 22 rfl W5.heap.size 24 ir _ 3 24 Try.underlying22 hir.out zr0 zr1 zr2 rfl (by decide) (.slice A1 R.length c1) R.length (rucs R) rfl (World.ownsRow.alloc ho1 (.cells #[.int .i64 r.k, .int .i64 r.l, .int .i64 r.f] 24)) _ _ 1 1 (ruc r) rfl (reads3 (heap_alloc_new w6 (.cells #[.int .i64 r.k, .int .i64 r.l, .int .i64 r.f] 24))) (by unfold ruc; simp [Value.oneCell']) hx0.out.2.1 hx0.out.2.2 hbl.size ?_
                    intro v2 w7 ho2 hg2 ha2
                    obtain ⟨A2, c2, rfl, hcap2⟩ := own_slice_cap ho2
                    have hb7 := hbl.grown hg2 hbl.size (own_base ho1)
                    have hz7 := hb7.size
                    have hzf := zkeep2 hg2 (World.ownsRow.alloc ho1 (.cells #[.int .i64 r.k, .int .i64 r.l, .int .i64 r.f] 24)) (blk_alloc' (o := .cells #[.int .i64 r.k, .int .i64 r.l, .int .i64 r.f] 24) hzf)
                    refine hK.out _ _ (KS.out _ hb7) (fun hHeld => ?_)
                    clear hK K
                    try simp only [Act.put, List.setIfInBounds_toArray, List.set_cons_zero, List.set_cons_succ]
                    as_aux_lemma =>
                      refine wpAnyH_ready (rs := [6]) (by kernel_rfl) (by simp) ?_
                      refine AllReadyH.cons1 ⟨?_, ?_, fun K hK => ?_⟩ ?_
                      rotate_left
                      · simp only [List.getElem?_toArray, List.getElem?_cons_zero, List.getElem?_cons_succ]; rfl
                      · rw [if_pos (by rfl)]
                        go_simp
                        go_at_call 14; (with_reducible refine (C2.out _ _ _ ho2).mono ?_); rintro e w8 ⟨A3, c3, ks3, rfl, hk8, hm8, hb8⟩
                        have hsz8 := Nat.le_trans hHeld.2.size hb8.size
                        have hzf := (hb8.block _ (lt_heap hzf)).trans hzf
                        refine hK.out _ _ (KS.out _ (hHeld.2.trans (hb8.mono hHeld.2.size))) (fun hHeld => ?_)
                        clear hK K
                        try simp only [Act.put, List.setIfInBounds_toArray, List.set_cons_zero, List.set_cons_succ]
                        refine wpAnyH_takeL 7 #[true, true, true, true, true, true, true, true, false, false, true, false, false] (by kernel_rfl) (by kernel_rfl) (by kernel_rfl) (by kernel_rfl) (fun d v c a w h => h) (by assumption) ⟨?_, ?_, ?_, Or.inl ⟨?_, ?_⟩, ?_⟩
                        rotate_left
                        · simp only [List.getElem?_toArray, List.getElem?_cons_zero, List.getElem?_cons_succ]; rfl
                        rotate_left
                        · rfl
                        · intro w hSw; (try dsimp only at hSw); go_simp; try (with_reducible rfl)
                        simp only [Act.put, List.setIfInBounds_toArray, List.set_cons_zero, List.set_cons_succ]
                        refine wpAnyH_takeL 8 #[true, true, true, true, true, true, true, true, true, false, true, false, false] (by kernel_rfl) (by kernel_rfl) (by kernel_rfl) (by kernel_rfl) (fun d v c a w h => h) (by assumption) ⟨?_, ?_, ?_, Or.inl ⟨?_, ?_⟩, ?_⟩
                        rotate_left
                        · simp only [List.getElem?_toArray, List.getElem?_cons_zero, List.getElem?_cons_succ]; rfl
                        rotate_left
                        · rfl
                        · intro w hSw; (try dsimp only at hSw); go_simp; try (with_reducible rfl)
                        simp only [Act.put, List.setIfInBounds_toArray, List.set_cons_zero, List.set_cons_succ]
                        refine wpAnyH_takeL 9 #[true, true, true, true, true, true, true, true, true, true, true, false, false] (by kernel_rfl) (by kernel_rfl) (by kernel_rfl) (by kernel_rfl) (fun d v c a w h => h) (by assumption) ⟨?_, ?_, ?_, Or.inl ⟨?_, ?_⟩, ?_⟩
                        rotate_left
                        · simp only [List.getElem?_toArray, List.getElem?_cons_zero, List.getElem?_cons_succ]; rfl
                        rotate_left
                        · rfl
                        · intro w hSw; (try dsimp only at hSw); go_simp; try (with_reducible rfl)
                        simp only [Act.put, List.setIfInBounds_toArray, List.set_cons_zero, List.set_cons_succ]
                        as_aux_lemma =>
                          have hbl8 := hHeld.2
                          refine wpAnyH_oneL 11 #[true, true, true, true, true, true, true, true, true, true, true, true, false] (by kernel_rfl) (by kernel_rfl) ⟨?_, ?_, fun K hK => ?_⟩
                          rotate_left
                          · simp only [List.getElem?_toArray, List.getElem?_cons_zero, List.getElem?_cons_succ]; rfl
                          have z0 := cell_of_row _ _ 0 _ _ (0, 0) hzf
                          have z1 := cell_of_row _ _ 1 _ _ (0, 0) hzf
                          have z2 := cell_of_row _ _ 2 _ _ (0, 0) hzf
                          have y0 := frozen_of_row _ _ 0 _ _ hzf
                          have y1 := frozen_of_row _ _ 1 _ _ hzf
                          have y2 := frozen_of_row _ _ 2 _ _ hzf
                          simp only [List.size_toArray, List.getElem?_toArray, List.getElem?_cons_zero, List.getElem?_cons_succ] at z0 z1 z2
                          rw [if_pos (by rfl)]
                          go_simp
                          have hx9 := zset hzf (.slice A3 ks3.length c3) (.int .i64 (neverF (R ++ [r])).1) (.bool (neverF (R ++ [r])).2)
                          have hk9 := hk8.chg hx9.2 (fun k cur hk e => by subst e; exact heap_ne hzf hk (by simp) rfl) (fun k cur hk e => by subst e; exact heap_ne hzf hk (by simp) rfl)
                          have hbl9 := hx9.2.below hbl8 hbl8.size (fun k e => by omega)
                          refine hK.out _ _ (KS.out _ hbl9) (fun hHeld => ?_)
                          replace hx9 := hx9.1
                          generalize World.setCell _ _ _ = W9 at *
                          clear hK K
                          try simp only [Act.put, List.setIfInBounds_toArray, List.set_cons_zero, List.set_cons_succ]
                          refine wpAnyH_takeL 12 #[true, true, true, true, true, true, true, true, true, true, true, true, true] (by kernel_rfl) (by kernel_rfl) (by kernel_rfl) (by kernel_rfl) (fun d v c a w h => h) (by assumption) ⟨?_, ?_, ?_, Or.inl ⟨?_, ?_⟩, ?_⟩
                          rotate_left
                          · simp only [List.getElem?_toArray, List.getElem?_cons_zero, List.getElem?_cons_succ]; rfl
                          rotate_left
                          · rfl
                          · intro w hSw; (try dsimp only at hSw); go_simp; try (with_reducible rfl)
                          simp only [Act.put, List.setIfInBounds_toArray, List.set_cons_zero, List.set_cons_succ]
                          refine wpAnyH_done (by kernel_rfl) (NoPanic.normal ?_) _
                          obtain ⟨q2, hq2⟩ : ∃ q2, q2 = W5.heap.size := ⟨_, rfl⟩
                          rw [← hq2] at hx9 ⊢
                          clear hq2
                          as_aux_lemma =>
                            have hbw9 := Lib.hid (hbw5.out.trans (hbl9.mono hbw5.out.size))
                            have HKB := Lib.hid hk9
                            have HX9 := Lib.hid hx9
                            have HM8 := Lib.hid hm8
                            have HBL := Lib.hid hbl9
                            clear hk9 hx9 hm8 hbl9
                            go_upto_region 8 with (go_at_call 15; (with_reducible refine (made_calls (B := w.heap.size) (hS.out.below hbw9.out) hbw9.out.size hs.out h30).mono ?_); rintro e w10 ⟨b, gx, rfl, ⟨base, A4, c4, hl1, hl2, hl3, ht4⟩, hx4, hb10⟩; have hl1' := Nat.le_trans HBL.out.size hl1; have hl2' := Nat.le_trans HBL.out.size hl2; have hbb := HBL.out.trans (hb10.mono HBL.out.size); have BX := Lib.hid (bo_below bx5.out hbb); rw [← hW5] at hl1' hl2' hbb; have H1 := Lib.hid (lw_mk RT.out hb3.out hk4.out hm4.out hb4.out hl1' hl2' hl3 ⟨_, _, ht4⟩ hbb); have H2 := Lib.hid (lw_mk2 RT2.out HKB.out HM8.out HX9.out hbw9.out hl1 hl2 hl3 ⟨_, _, ht4⟩ hb10); clear hl1 hl2 hl3 ht4 hx4 hb10 hl1' hl2' hbb)
                            generalize mkM L L.length = M at *
                            have MH : MoreH w w10 R r M base b num w3.heap.size w4.heap.size A c ks _ q2 A3 c3 ks3 := ⟨H1.out, H2.out, BX.out, G.out, fun h => more_ge RT2.out h G.out num, fun h => more_never RT.out hrb.out h G.out num, minM_rng G.out num, rightB_f hrb.out⟩
                            clear HKB HX9 HM8 HBL hbw9 H1 H2 BX bx5 hb45 hbw5 KS RD C2 hz5 hS5 hW5 X4 RT RT2 hb3 hb4 hk4 hm4 hR hS hs hrb
                            generalize w4.heap.size = q1 at *
                            have T1 := Lib.hid MH.t1
                            have T2 := Lib.hid MH.t2
                            have MN := Lib.hid MH.mn
                            have hnv := MH.nv
                            have hgm := MH.ge
                            have hwr := MH.wr
                            have hrf := MH.rf
                            have hc10 := MH.cells
                            replace MH := Lib.hid MH
                            generalize tl R M num = x at *
                            generalize tl (R ++ [r]) M num = y at *
                            go_region_held3 (fun w' => (w'.cell? { block := q1, off := 0 } = some (.slice A ks.length c) ∧ w'.cell? { block := q1, off := 1 } = some (.int .i64 (neverF R).1) ∧ w'.cell? { block := q1, off := 2 } = some (.bool (neverF R).2)) ∧ w'.cell? { block := q2, off := 0 } = some (.slice A3 ks3.length c3) ∧ w'.cell? { block := q2, off := 1 } = some (.int .i64 (neverF (R ++ [r])).1) ∧ w'.cell? { block := q2, off := 2 } = some (.bool (neverF (R ++ [r])).2)) (first | exact hc10 | exact hc11 | exact hc12)
                              ((first
                                | (go_at_call 16
                                   (with_reducible refine (T1.out _ (MH.out.below (below_drew (Below.refl _ _)))).mono ?_)
                                   rintro e w11 ⟨rfl, hb11⟩
                                   have MH1 := Lib.hid (MH.out.below ((below_drew (Below.refl _ _)).trans hb11))
                                   have hc11 := MH1.out.cells
                                   clear hb11)
                                | (go_at_call 16
                                   (with_reducible refine (T2.out _ MH1.out).mono ?_)
                                   rintro e w12 ⟨rfl, hb12⟩
                                   have MH2 := Lib.hid (MH1.out.below hb12)
                                   have hc12 := MH2.out.cells
                                   clear hb12)))
                            have hbx := MH2.out.bx.cells
                            clear MH MH1 hc10 hc11 T1 T2
                            have d1 : IntKind.i64.wrap (minM M num + r.f) = minM M num + r.f := IntWalk.i64_in _ (by omega)
                            have d2 : wrap64 (minM M num + r.f) = minM M num + r.f := (i64_w _).symm.trans d1
                            generalize minM M num = m at *
                            by_cases hk : r.k = 4
                            · have q4 : (r.k == 4) = true := beq_iff_eq.2 hk
                              obtain ⟨n1, n2⟩ := hnv hk
                              have q5 : decide (y ≤ x) = true := decide_eq_true n1
                              clear hk hgm hnv
                              cases hh : hit M num with
                              | false =>
                                rw [hh] at MN
                                clear hh n2
                                go_wp2_with (go_at_call 17; (with_reducible refine (MN.out _ MH2.out).mono ?_); rintro e w13 ⟨rfl, hb13⟩; have MH3 := Lib.hid (MH2.out.below hb13); have hbx3 := MH3.out.bx.cells; clear hb13)
                                go_ret
                                exact ⟨rfl, MH3.out.a.kt.bel⟩
                              | true =>
                                rw [hh] at MN
                                obtain ⟨n3, n4⟩ := n2 hh
                                have q6 : decide (y ≤ m + r.f) = true := decide_eq_true n3
                                clear hh n2
                                by_cases hxy : y = x
                                · have q7 : (y == x) = true := beq_iff_eq.2 hxy
                                  clear hxy n4
                                  go_wp2_with (go_at_call 17; (with_reducible refine (MN.out _ MH2.out).mono ?_); rintro e w13 ⟨rfl, hb13⟩; have MH3 := Lib.hid (MH2.out.below hb13); have hbx3 := MH3.out.bx.cells; clear hb13)
                                  go_ret
                                  exact ⟨rfl, MH3.out.a.kt.bel⟩
                                · have q7 : (y == x) = false := beq_eq_false_iff_ne.2 hxy
                                  have q8 : (y == m + r.f) = true := beq_iff_eq.2 (n4.resolve_left hxy)
                                  clear hxy n4
                                  go_wp2_with (go_at_call 17; (with_reducible refine (MN.out _ MH2.out).mono ?_); rintro e w13 ⟨rfl, hb13⟩; have MH3 := Lib.hid (MH2.out.below hb13); have hbx3 := MH3.out.bx.cells; clear hb13)
                                  go_ret
                                  exact ⟨rfl, MH3.out.a.kt.bel⟩
                            · have q4 : (r.k == 4) = false := beq_eq_false_iff_ne.2 hk
                              have q5 : decide (x ≤ y) = true := decide_eq_true (hgm hk)
                              clear hgm hnv hk
                              go_wp2
                              go_ret
                              exact ⟨rfl, MH2.out.a.kt.bel⟩
                      exact AllReadyH.nil
                  exact AllReadyH.nil
              exact AllReadyH.nil
          refine AllReadyH.cons1 ⟨?_, ?_, fun K hK => ?_⟩ ?_
          rotate_left
          · simp only [List.getElem?_toArray, List.getElem?_cons_zero, List.getElem?_cons_succ]; rfl
          · rw [if_pos (by rfl)]
            go_simp
            refine hK.out _ _ (KS.out _ (below_alloc hHeld.2 (.cells #[.int .i64 r.k, .int .i64 r.l, .int .i64 r.f] 24))) (fun hHeld => ?_)
            clear hK K
            try simp only [Act.put, List.setIfInBounds_toArray, List.set_cons_zero, List.set_cons_succ]
            as_aux_lemma =>
              refine wpAnyH_ready (rs := [2]) (by kernel_rfl) (by simp) ?_
              refine AllReadyH.cons1 ⟨?_, ?_, fun K hK => ?_⟩ ?_
              rotate_left
              · simp only [List.getElem?_toArray, List.getElem?_cons_zero, List.getElem?_cons_succ]; rfl
              · have hbl := hHeld.2
                have hga := (hn32 W5 (.cells #[.slice none 0 0, .int .i64 0, .bool false] 32) (.cells #[] 24) (.cells #[.int .i64 r.k, .int .i64 r.l, .int .i64 r.f] 24))
                refine step_append_any _ rfl (.tmp 45) (.tmp 46) 22 rfl W5.heap.size 24 ir _ 3 24 Try.underlying22 hir.out zr0 zr1 zr2 rfl (by decide) (.slice (some ⟨W5.heap.size + 1, 0, none⟩) 0 0) 0 [] rfl (own_e hga (by omega)) _ A0 R.length c0 (rucs R) rfl (RD.out _ hbl) (rucs_one R) hx0.out.1.1 hx0.out.1.2 hbl.size ?_
                intro v1 w6 ho1 hg1 ha1
                rw [Nat.zero_add, List.nil_append] at ho1
                obtain ⟨A1, c1, rfl, hcap1⟩ := own_slice_cap ho1
                have hb6 := hbl.grown hg1 hbl.size (fun k e => by simp [Value.ownBlock] at e; omega)
                have hgc := (hg1.block _ (lt_heap ((hn33 W5 (.cells #[.slice none 0 0, .int .i64 0, .bool false] 32) (.cells #[] 24) (.cells #[.int .i64 r.k, .int .i64 r.l, .int .i64 r.f] 24)))) (by simp [Value.ownBlock] <;> omega)).trans ((hn33 W5 (.cells #[.slice none 0 0, .int .i64 0, .bool false] 32) (.cells #[] 24) (.cells #[.int .i64 r.k, .int .i64 r.l, .int .i64 r.f] 24)))
                have hz6 := hb6.size
                have hzf := zkeep2 hg1 (own_e hga (show W5.heap.size ≤ _ by omega)) (hn31 W5 (.cells #[.slice none 0 0, .int .i64 0, .bool false] 32) (.cells #[] 24) (.cells #[.int .i64 r.k, .int .i64 r.l, .int .i64 r.f] 24))
                refine hK.out _ _ (KS.out _ hb6) (fun hHeld => ?_)
                clear hK K
                try simp only [Act.put, List.setIfInBounds_toArray, List.set_cons_zero, List.set_cons_succ]
                as_aux_lemma =>
                  refine wpAnyH_ready (rs := [5]) (by kernel_rfl) (by simp) ?_
                  refine AllReadyH.cons1 ⟨?_, ?_, fun K hK => ?_⟩ ?_
                  rotate_left
                  · simp only [List.getElem?_toArray, List.getElem?_cons_zero, List.getElem?_cons_succ]; rfl
                  · have hbl := hHeld.2
                    refine step_append_any _ rfl (.tmp 47) (.tmp 49) 22 rfl W5.heap.size 24 ir _ 3 24 Try.underlying22 hir.out zr0 zr1 zr2 rfl (by decide) (.slice A1 R.length c1) R.length (rucs R) rfl ho1 _ _ 1 1 (ruc r) rfl (reads3 hgc) (by unfold ruc; simp [Value.oneCell']) hx0.out.2.1 hx0.out.2.2 hbl.size ?_
                    intro v2 w7 ho2 hg2 ha2
                    obtain ⟨A2, c2, rfl, hcap2⟩ := own_slice_cap ho2
                    have hb7 := hbl.grown hg2 hbl.size (own_base ho1)
                    have hz7 := hb7.size
                    have hzf := zkeep2 hg2 ho1 hzf
                    refine hK.out _ _ (KS.out _ hb7) (fun hHeld => ?_)
                    clear hK K
                    try simp only [Act.put, List.setIfInBounds_toArray, List.set_cons_zero, List.set_cons_succ]
                    as_aux_lemma =>
                      refine wpAnyH_ready (rs := [6]) (by kernel_rfl) (by simp) ?_
                      refine AllReadyH.cons1 ⟨?_, ?_, fun K hK => ?_⟩ ?_
                      rotate_left
                      · simp only [List.getElem?_toArray, List.getElem?_cons_zero, List.getElem?_cons_succ]; rfl
                      · rw [if_pos (by rfl)]
                        go_simp
                        go_at_call 14; (with_reducible refine (C2.out _ _ _ ho2).mono ?_); rintro e w8 ⟨A3, c3, ks3, rfl, hk8, hm8, hb8⟩
                        have hsz8 := Nat.le_trans hHeld.2.size hb8.size
                        have hzf := (hb8.block _ (lt_heap hzf)).trans hzf
                        refine hK.out _ _ (KS.out _ (hHeld.2.trans (hb8.mono hHeld.2.size))) (fun hHeld => ?_)
                        clear hK K
                        try simp only [Act.put, List.setIfInBounds_toArray, List.set_cons_zero, List.set_cons_succ]
                        refine wpAnyH_takeL 7 #[true, true, true, true, true, true, true, true, false, false, true, false, false] (by kernel_rfl) (by kernel_rfl) (by kernel_rfl) (by kernel_rfl) (fun d v c a w h => h) (by assumption) ⟨?_, ?_, ?_, Or.inl ⟨?_, ?_⟩, ?_⟩
                        rotate_left
                        · simp only [List.getElem?_toArray, List.getElem?_cons_zero, List.getElem?_cons_succ]; rfl
                        rotate_left
                        · rfl
                        · intro w hSw; (try dsimp only at hSw); go_simp; try (with_reducible rfl)
                        simp only [Act.put, List.setIfInBounds_toArray, List.set_cons_zero, List.set_cons_succ]
                        refine wpAnyH_takeL 8 #[true, true, true, true, true, true, true, true, true, false, true, false, false] (by kernel_rfl) (by kernel_rfl) (by kernel_rfl) (by kernel_rfl) (fun d v c a w h => h) (by assumption) ⟨?_, ?_, ?_, Or.inl ⟨?_, ?_⟩, ?_⟩
                        rotate_left
                        · simp only [List.getElem?_toArray, List.getElem?_cons_zero, List.getElem?_cons_succ]; rfl
                        rotate_left
                        · rfl
                        · intro w hSw; (try dsimp only at hSw); go_simp; try (with_reducible rfl)
                        simp only [Act.put, List.setIfInBounds_toArray, List.set_cons_zero, List.set_cons_succ]
                        refine wpAnyH_takeL 9 #[true, true, true, true, true, true, true, true, true, true, true, false, false] (by kernel_rfl) (by kernel_rfl) (by kernel_rfl) (by kernel_rfl) (fun d v c a w h => h) (by assumption) ⟨?_, ?_, ?_, Or.inl ⟨?_, ?_⟩, ?_⟩
                        rotate_left
                        · simp only [List.getElem?_toArray, List.getElem?_cons_zero, List.getElem?_cons_succ]; rfl
                        rotate_left
                        · rfl
                        · intro w hSw; (try dsimp only at hSw); go_simp; try (with_reducible rfl)
                        simp only [Act.put, List.setIfInBounds_toArray, List.set_cons_zero, List.set_cons_succ]
                        as_aux_lemma =>
                          have hbl8 := hHeld.2
                          refine wpAnyH_oneL 11 #[true, true, true, true, true, true, true, true, true, true, true, true, false] (by kernel_rfl) (by kernel_rfl) ⟨?_, ?_, fun K hK => ?_⟩
                          rotate_left
                          · simp only [List.getElem?_toArray, List.getElem?_cons_zero, List.getElem?_cons_succ]; rfl
                          have z0 := cell_of_row _ _ 0 _ _ (0, 0) hzf
                          have z1 := cell_of_row _ _ 1 _ _ (0, 0) hzf
                          have z2 := cell_of_row _ _ 2 _ _ (0, 0) hzf
                          have y0 := frozen_of_row _ _ 0 _ _ hzf
                          have y1 := frozen_of_row _ _ 1 _ _ hzf
                          have y2 := frozen_of_row _ _ 2 _ _ hzf
                          simp only [List.size_toArray, List.getElem?_toArray, List.getElem?_cons_zero, List.getElem?_cons_succ] at z0 z1 z2
                          rw [if_pos (by rfl)]
                          go_simp
                          have hx9 := zset hzf (.slice A3 ks3.length c3) (.int .i64 (neverF (R ++ [r])).1) (.bool (neverF (R ++ [r])).2)
                          have hk9 := hk8.chg hx9.2 (fun k cur hk e => by subst e; exact heap_ne hzf hk (by simp) rfl) (fun k cur hk e => by subst e; exact heap_ne hzf hk (by simp) rfl)
                          have hbl9 := hx9.2.below hbl8 hbl8.size (fun k e => by omega)
                          refine hK.out _ _ (KS.out _ hbl9) (fun hHeld => ?_)
                          replace hx9 := hx9.1
                          generalize World.setCell _ _ _ = W9 at *
                          clear hK K
                          try simp only [Act.put, List.setIfInBounds_toArray, List.set_cons_zero, List.set_cons_succ]
                          refine wpAnyH_takeL 12 #[true, true, true, true, true, true, true, true, true, true, true, true, true] (by kernel_rfl) (by kernel_rfl) (by kernel_rfl) (by kernel_rfl) (fun d v c a w h => h) (by assumption) ⟨?_, ?_, ?_, Or.inl ⟨?_, ?_⟩, ?_⟩
                          rotate_left
                          · simp only [List.getElem?_toArray, List.getElem?_cons_zero, List.getElem?_cons_succ]; rfl
                          rotate_left
                          · rfl
                          · intro w hSw; (try dsimp only at hSw); go_simp; try (with_reducible rfl)
                          simp only [Act.put, List.setIfInBounds_toArray, List.set_cons_zero, List.set_cons_succ]
                          refine wpAnyH_done (by kernel_rfl) (NoPanic.normal ?_) _
                          obtain ⟨q2, hq2⟩ : ∃ q2, q2 = W5.heap.size := ⟨_, rfl⟩
                          rw [← hq2] at hx9 ⊢
                          clear hq2
                          as_aux_lemma =>
                            have hbw9 := Lib.hid (hbw5.out.trans (hbl9.mono hbw5.out.size))
                            have HKB := Lib.hid hk9
                            have HX9 := Lib.hid hx9
                            have HM8 := Lib.hid hm8
                            have HBL := Lib.hid hbl9
                            clear hk9 hx9 hm8 hbl9
                            go_upto_region 8 with (go_at_call 15; (with_reducible refine (made_calls (B := w.heap.size) (hS.out.below hbw9.out) hbw9.out.size hs.out h30).mono ?_); rintro e w10 ⟨b, gx, rfl, ⟨base, A4, c4, hl1, hl2, hl3, ht4⟩, hx4, hb10⟩; have hl1' := Nat.le_trans HBL.out.size hl1; have hl2' := Nat.le_trans HBL.out.size hl2; have hbb := HBL.out.trans (hb10.mono HBL.out.size); have BX := Lib.hid (bo_below bx5.out hbb); rw [← hW5] at hl1' hl2' hbb; have H1 := Lib.hid (lw_mk RT.out hb3.out hk4.out hm4.out hb4.out hl1' hl2' hl3 ⟨_, _, ht4⟩ hbb); have H2 := Lib.hid (lw_mk2 RT2.out HKB.out HM8.out HX9.out hbw9.out hl1 hl2 hl3 ⟨_, _, ht4⟩ hb10); clear hl1 hl2 hl3 ht4 hx4 hb10 hl1' hl2' hbb)
                            generalize mkM L L.length = M at *
                            have MH : MoreH w w10 R r M base b num w3.heap.size w4.heap.size A c ks _ q2 A3 c3 ks3 := ⟨H1.out, H2.out, BX.out, G.out, fun h => more_ge RT2.out h G.out num, fun h => more_never RT.out hrb.out h G.out num, minM_rng G.out num, rightB_f hrb.out⟩
                            clear HKB HX9 HM8 HBL hbw9 H1 H2 BX bx5 hb45 hbw5 KS RD C2 hz5 hS5 hW5 X4 RT RT2 hb3 hb4 hk4 hm4 hR hS hs hrb
                            generalize w4.heap.size = q1 at *
                            have T1 := Lib.hid MH.t1
                            have T2 := Lib.hid MH.t2
                            have MN := Lib.hid MH.mn
                            have hnv := MH.nv
                            have hgm := MH.ge
                            have hwr := MH.wr
                            have hrf := MH.rf
                            have hc10 := MH.cells
                            replace MH := Lib.hid MH
                            generalize tl R M num = x at *
                            generalize tl (R ++ [r]) M num = y at *
                            go_region_held3 (fun w' => (w'.cell? { block := q1, off := 0 } = some (.slice A ks.length c) ∧ w'.cell? { block := q1, off := 1 } = some (.int .i64 (neverF R).1) ∧ w'.cell? { block := q1, off := 2 } = some (.bool (neverF R).2)) ∧ w'.cell? { block := q2, off := 0 } = some (.slice A3 ks3.length c3) ∧ w'.cell? { block := q2, off := 1 } = some (.int .i64 (neverF (R ++ [r])).1) ∧ w'.cell? { block := q2, off := 2 } = some (.bool (neverF (R ++ [r])).2)) (first | exact hc10 | exact hc11 | exact hc12)
                              ((first
                                | (go_at_call 16
                                   (with_reducible refine (T1.out _ (MH.out.below (below_drew (Below.refl _ _)))).mono ?_)
                                   rintro e w11 ⟨rfl, hb11⟩
                                   have MH1 := Lib.hid (MH.out.below ((below_drew (Below.refl _ _)).trans hb11))
                                   have hc11 := MH1.out.cells
                                   clear hb11)
                                | (go_at_call 16
                                   (with_reducible refine (T2.out _ MH1.out).mono ?_)
                                   rintro e w12 ⟨rfl, hb12⟩
                                   have MH2 := Lib.hid (MH1.out.below hb12)
                                   have hc12 := MH2.out.cells
                                   clear hb12)))
                            have hbx := MH2.out.bx.cells
                            clear MH MH1 hc10 hc11 T1 T2
                            have d1 : IntKind.i64.wrap (minM M num + r.f) = minM M num + r.f := IntWalk.i64_in _ (by omega)
                            have d2 : wrap64 (minM M num + r.f) = minM M num + r.f := (i64_w _).symm.trans d1
                            generalize minM M num = m at *
                            by_cases hk : r.k = 4
                            · have q4 : (r.k == 4) = true := beq_iff_eq.2 hk
                              obtain ⟨n1, n2⟩ := hnv hk
                              have q5 : decide (y ≤ x) = true := decide_eq_true n1
                              clear hk hgm hnv
                              cases hh : hit M num with
                              | false =>
                                rw [hh] at MN
                                clear hh n2
                                go_wp2_with (go_at_call 17; (with_reducible refine (MN.out _ MH2.out).mono ?_); rintro e w13 ⟨rfl, hb13⟩; have MH3 := Lib.hid (MH2.out.below hb13); have hbx3 := MH3.out.bx.cells; clear hb13)
                                go_ret
                                exact ⟨rfl, MH3.out.a.kt.bel⟩
                              | true =>
                                rw [hh] at MN
                                obtain ⟨n3, n4⟩ := n2 hh
                                have q6 : decide (y ≤ m + r.f) = true := decide_eq_true n3
                                clear hh n2
                                by_cases hxy : y = x
                                · have q7 : (y == x) = true := beq_iff_eq.2 hxy
                                  clear hxy n4
                                  go_wp2_with (go_at_call 17; (with_reducible refine (MN.out _ MH2.out).mono ?_); rintro e w13 ⟨rfl, hb13⟩; have MH3 := Lib.hid (MH2.out.below hb13); have hbx3 := MH3.out.bx.cells; clear hb13)
                                  go_ret
                                  exact ⟨rfl, MH3.out.a.kt.bel⟩
                                · have q7 : (y == x) = false := beq_eq_false_iff_ne.2 hxy
                                  have q8 : (y == m + r.f) = true := beq_iff_eq.2 (n4.resolve_left hxy)
                                  clear hxy n4
                                  go_wp2_with (go_at_call 17; (with_reducible refine (MN.out _ MH2.out).mono ?_); rintro e w13 ⟨rfl, hb13⟩; have MH3 := Lib.hid (MH2.out.below hb13); have hbx3 := MH3.out.bx.cells; clear hb13)
                                  go_ret
                                  exact ⟨rfl, MH3.out.a.kt.bel⟩
                            · have q4 : (r.k == 4) = false := beq_eq_false_iff_ne.2 hk
                              have q5 : decide (x ≤ y) = true := decide_eq_true (hgm hk)
                              clear hgm hnv hk
                              go_wp2
                              go_ret
                              exact ⟨rfl, MH2.out.a.kt.bel⟩
                      exact AllReadyH.nil
                  exact AllReadyH.nil
              exact AllReadyH.nil
          exact AllReadyH.nil
      refine AllReadyH.cons1 ⟨?_, ?_, fun K hK => ?_⟩ ?_
      rotate_left
      · simp only [List.getElem?_toArray, List.getElem?_cons_zero, List.getElem?_cons_succ]; rfl
      · rw [if_pos (by rfl)]
        go_simp
        refine hK.out _ _ (KS.out _ (below_alloc hHeld.2 (.cells #[.int .i64 r.k, .int .i64 r.l, .int .i64 r.f] 24))) (fun hHeld => ?_)
        clear hK K
        try simp only [Act.put, List.setIfInBounds_toArray, List.set_cons_zero, List.set_cons_succ]
        as_aux_lemma =>
          refine wpAnyH_ready (rs := [0]) (by kernel_rfl) (by simp) ?_
          refine AllReadyH.cons1 ⟨?_, ?_, fun K hK => ?_⟩ ?_
          rotate_left
          · simp only [List.getElem?_toArray, List.getElem?_cons_zero, List.getElem?_cons_succ]; rfl
          · rw [if_pos (by rfl)]
            go_simp
            refine hK.out _ _ (KS.out _ (below_alloc hHeld.2 (.cells #[] 24))) (fun hHeld => ?_)
            clear hK K
            try simp only [Act.put, List.setIfInBounds_toArray, List.set_cons_zero, List.set_cons_succ]
            as_aux_lemma =>
              refine wpAnyH_ready (rs := [2]) (by kernel_rfl) (by simp) ?_
              refine AllReadyH.cons1 ⟨?_, ?_, fun K hK => ?_⟩ ?_
              rotate_left
              · simp only [List.getElem?_toArray, List.getElem?_cons_zero, List.getElem?_cons_succ]; rfl
              · have hbl := hHeld.2
                have hga := (hn33 W5 (.cells #[.slice none 0 0, .int .i64 0, .bool false] 32) (.cells #[.int .i64 r.k, .int .i64 r.l, .int .i64 r.f] 24) (.cells #[] 24))
                refine step_append_any _ rfl (.tmp 45) (.tmp 46) 22 rfl W5.heap.size 24 ir _ 3 24 Try.underlying22 hir.out zr0 zr1 zr2 rfl (by decide) (.slice (some ⟨W5.heap.size + 1 + 1, 0, none⟩) 0 0) 0 [] rfl (own_e hga (by omega)) _ A0 R.length c0 (rucs R) rfl (RD.out _ hbl) (rucs_one R) hx0.out.1.1 hx0.out.1.2 hbl.size ?_
                intro v1 w6 ho1 hg1 ha1
                rw [Nat.zero_add, List.nil_append] at ho1
                obtain ⟨A1, c1, rfl, hcap1⟩ := own_slice_cap ho1
                have hb6 := hbl.grown hg1 hbl.size (fun k e => by simp [Value.ownBlock] at e; omega)
                have hgc := (hg1.block _ (lt_heap ((hn32 W5 (.cells #[.slice none 0 0, .int .i64 0, .bool false] 32) (.cells #[.int .i64 r.k, .int .i64 r.l, .int .i64 r.f] 24) (.cells #[] 24)))) (by simp [Value.ownBlock] <;> omega)).trans ((hn32 W5 (.cells #[.slice none 0 0, .int .i64 0, .bool false] 32) (.cells #[.int .i64 r.k, .int .i64 r.l, .int .i64 r.f] 24) (.cells #[] 24)))
                have hz6 := hb6.size
                have hzf := zkeep2 hg1 (own_e hga (show W5.heap.size ≤ _ by omega)) (hn31 W5 (.cells #[.slice none 0 0, .int .i64 0, .bool false] 32) (.cells #[.int .i64 r.k, .int .i64 r.l, .int .i64 r.f] 24) (.cells #[] 24))
                refine hK.out _ _ (KS.out _ hb6) (fun hHeld => ?_)
                clear hK K
                try simp only [Act.put, List.setIfInBounds_toArray, List.set_cons_zero, List.set_cons_succ]
                as_aux_lemma =>
                  refine wpAnyH_ready (rs := [5]) (by kernel_rfl) (by simp) ?_
                  refine AllReadyH.cons1 ⟨?_, ?_, fun K hK => ?_⟩ ?_
                  rotate_left
                  · simp only [List.getElem?_toArray, List.getElem?_cons_zero, List.getElem?_cons_succ]; rfl
                  · have hbl := hHeld.2
                    refine step_append_any _ rfl (.tmp 47) (.tmp 49) 22 rfl W5.heap.size 24 ir _ 3 24 Try.underlying22 hir.out zr0 zr1 zr2 rfl (by decide) (.slice A1 R.length c1) R.length (rucs R) rfl ho1 _ _ 1 1 (ruc r) rfl (reads3 hgc) (by unfold ruc; simp [Value.oneCell']) hx0.out.2.1 hx0.out.2.2 hbl.size ?_
                    intro v2 w7 ho2 hg2 ha2
                    obtain ⟨A2, c2, rfl, hcap2⟩ := own_slice_cap ho2
                    have hb7 := hbl.grown hg2 hbl.size (own_base ho1)
                    have hz7 := hb7.size
                    have hzf := zkeep2 hg2 ho1 hzf
                    refine hK.out _ _ (KS.out _ hb7) (fun hHeld => ?_)
                    clear hK K
                    try simp only [Act.put, List.setIfInBounds_toArray, List.set_cons_zero, List.set_cons_succ]
                    as_aux_lemma =>
                      refine wpAnyH_ready (rs := [6]) (by kernel_rfl) (by simp) ?_
                      refine AllReadyH.cons1 ⟨?_, ?_, fun K hK => ?_⟩ ?_
                      rotate_left
                      · simp only [List.getElem?_toArray, List.getElem?_cons_zero, List.getElem?_cons_succ]; rfl
                      · rw [if_pos (by rfl)]
                        go_simp
                        go_at_call 14; (with_reducible refine (C2.out _ _ _ ho2).mono ?_); rintro e w8 ⟨A3, c3, ks3, rfl, hk8, hm8, hb8⟩
                        have hsz8 := Nat.le_trans hHeld.2.size hb8.size
                        have hzf := (hb8.block _ (lt_heap hzf)).trans hzf
                        refine hK.out _ _ (KS.out _ (hHeld.2.trans (hb8.mono hHeld.2.size))) (fun hHeld => ?_)
                        clear hK K
                        try simp only [Act.put, List.setIfInBounds_toArray, List.set_cons_zero, List.set_cons_succ]
                        refine wpAnyH_takeL 7 #[true, true, true, true, true, true, true, true, false, false, true, false, false] (by kernel_rfl) (by kernel_rfl) (by kernel_rfl) (by kernel_rfl) (fun d v c a w h => h) (by assumption) ⟨?_, ?_, ?_, Or.inl ⟨?_, ?_⟩, ?_⟩
                        rotate_left
                        · simp only [List.getElem?_toArray, List.getElem?_cons_zero, List.getElem?_cons_succ]; rfl
                        rotate_left
                        · rfl
                        · intro w hSw; (try dsimp only at hSw); go_simp; try (with_reducible rfl)
                        simp only [Act.put, List.setIfInBounds_toArray, List.set_cons_zero, List.set_cons_succ]
                        refine wpAnyH_takeL 8 #[true, true, true, true, true, true, true, true, true, false, true, false, false] (by kernel_rfl) (by kernel_rfl) (by kernel_rfl) (by kernel_rfl) (fun d v c a w h => h) (by assumption) ⟨?_, ?_, ?_, Or.inl ⟨?_, ?_⟩, ?_⟩
                        rotate_left
                        · simp only [List.getElem?_toArray, List.getElem?_cons_zero, List.getElem?_cons_succ]; rfl
                        rotate_left
                        · rfl
                        · intro w hSw; (try dsimp only at hSw); go_simp; try (with_reducible rfl)
                        simp only [Act.put, List.setIfInBounds_toArray, List.set_cons_zero, List.set_cons_succ]
                        refine wpAnyH_takeL 9 #[true, true, true, true, true, true, true, true, true, true, true, false, false] (by kernel_rfl) (by kernel_rfl) (by kernel_rfl) (by kernel_rfl) (fun d v c a w h => h) (by assumption) ⟨?_, ?_, ?_, Or.inl ⟨?_, ?_⟩, ?_⟩
                        rotate_left
                        · simp only [List.getElem?_toArray, List.getElem?_cons_zero, List.getElem?_cons_succ]; rfl
                        rotate_left
                        · rfl
                        · intro w hSw; (try dsimp only at hSw); go_simp; try (with_reducible rfl)
                        simp only [Act.put, List.setIfInBounds_toArray, List.set_cons_zero, List.set_cons_succ]
                        as_aux_lemma =>
                          have hbl8 := hHeld.2
                          refine wpAnyH_oneL 11 #[true, true, true, true, true, true, true, true, true, true, true, true, false] (by kernel_rfl) (by kernel_rfl) ⟨?_, ?_, fun K hK => ?_⟩
                          rotate_left
                          · simp only [List.getElem?_toArray, List.getElem?_cons_zero, List.getElem?_cons_succ]; rfl
                          have z0 := cell_of_row _ _ 0 _ _ (0, 0) hzf
                          have z1 := cell_of_row _ _ 1 _ _ (0, 0) hzf
                          have z2 := cell_of_row _ _ 2 _ _ (0, 0) hzf
                          have y0 := frozen_of_row _ _ 0 _ _ hzf
                          have y1 := frozen_of_row _ _ 1 _ _ hzf
                          have y2 := frozen_of_row _ _ 2 _ _ hzf
                          simp only [List.size_toArray, List.getElem?_toArray, List.getElem?_cons_zero, List.getElem?_cons_succ] at z0 z1 z2
                          rw [if_pos (by rfl)]
                          go_simp
                          have hx9 := zset hzf (.slice A3 ks3.length c3) (.int .i64 (neverF (R ++ [r])).1) (.bool (neverF (R ++ [r])).2)
                          have hk9 := hk8.chg hx9.2 (fun k cur hk e => by subst e; exact heap_ne hzf hk (by simp) rfl) (fun k cur hk e => by subst e; exact heap_ne hzf hk (by simp) rfl)
                          have hbl9 := hx9.2.below hbl8 hbl8.size (fun k e => by omega)
                          refine hK.out _ _ (KS.out _ hbl9) (fun hHeld => ?_)
                          replace hx9 := hx9.1
                          generalize World.setCell _ _ _ = W9 at *
                          clear hK K
                          try simp only [Act.put, List.setIfInBounds_toArray, List.set_cons_zero, List.set_cons_succ]
                          refine wpAnyH_takeL 12 #[true, true, true, true, true, true, true, true, true, true, true, true, true] (by kernel_rfl) (by kernel_rfl) (by kernel_rfl) (by kernel_rfl) (fun d v c a w h => h) (by assumption) ⟨?_, ?_, ?_, Or.inl ⟨?_, ?_⟩, ?_⟩
                          rotate_left
                          · simp only [List.getElem?_toArray, List.getElem?_cons_zero, List.getElem?_cons_succ]; rfl
                          rotate_left
                          · rfl
                          · intro w hSw; (try dsimp only at hSw); go_simp; try (with_reducible rfl)
                          simp only [Act.put, List.setIfInBounds_toArray, List.set_cons_zero, List.set_cons_succ]
                          refine wpAnyH_done (by kernel_rfl) (NoPanic.normal ?_) _
                          obtain ⟨q2, hq2⟩ : ∃ q2, q2 = W5.heap.size := ⟨_, rfl⟩
                          rw [← hq2] at hx9 ⊢
                          clear hq2
                          as_aux_lemma =>
                            have hbw9 := Lib.hid (hbw5.out.trans (hbl9.mono hbw5.out.size))
                            have HKB := Lib.hid hk9
                            have HX9 := Lib.hid hx9
                            have HM8 := Lib.hid hm8
                            have HBL := Lib.hid hbl9
                            clear hk9 hx9 hm8 hbl9
                            go_upto_region 8 with (go_at_call 15; (with_reducible refine (made_calls (B := w.heap.size) (hS.out.below hbw9.out) hbw9.out.size hs.out h30).mono ?_); rintro e w10 ⟨b, gx, rfl, ⟨base, A4, c4, hl1, hl2, hl3, ht4⟩, hx4, hb10⟩; have hl1' := Nat.le_trans HBL.out.size hl1; have hl2' := Nat.le_trans HBL.out.size hl2; have hbb := HBL.out.trans (hb10.mono HBL.out.size); have BX := Lib.hid (bo_below bx5.out hbb); rw [← hW5] at hl1' hl2' hbb; have H1 := Lib.hid (lw_mk RT.out hb3.out hk4.out hm4.out hb4.out hl1' hl2' hl3 ⟨_, _, ht4⟩ hbb); have H2 := Lib.hid (lw_mk2 RT2.out HKB.out HM8.out HX9.out hbw9.out hl1 hl2 hl3 ⟨_, _, ht4⟩ hb10); clear hl1 hl2 hl3 ht4 hx4 hb10 hl1' hl2' hbb)
                            generalize mkM L L.length = M at *
                            have MH : MoreH w w10 R r M base b num w3.heap.size w4.heap.size A c ks _ q2 A3 c3 ks3 := ⟨H1.out, H2.out, BX.out, G.out, fun h => more_ge RT2.out h G.out num, fun h => more_never RT.out hrb.out h G.out num, minM_rng G.out num, rightB_f hrb.out⟩
                            clear HKB HX9 HM8 HBL hbw9 H1 H2 BX bx5 hb45 hbw5 KS RD C2 hz5 hS5 hW5 X4 RT RT2 hb3 hb4 hk4 hm4 hR hS hs hrb
                            generalize w4.heap.size = q1 at *
                            have T1 := Lib.hid MH.t1
                            have T2 := Lib.hid MH.t2
                            have MN := Lib.hid MH.mn
                            have hnv := MH.nv
                            have hgm := MH.ge
                            have hwr := MH.wr
                            have hrf := MH.rf
                            have hc10 := MH.cells
                            replace MH := Lib.hid MH
                            generalize tl R M num = x at *
                            generalize tl (R ++ [r]) M num = y at *
                            go_region_held3 (fun w' => (w'.cell? { block := q1, off := 0 } = some (.slice A ks.length c) ∧ w'.cell? { block := q1, off := 1 } = some (.int .i64 (neverF R).1) ∧ w'.cell? { block := q1, off := 2 } = some (.bool (neverF R).2)) ∧ w'.cell? { block := q2, off := 0 } = some (.slice A3 ks3.length c3) ∧ w'.cell? { block := q2, off := 1 } = some (.int .i64 (neverF (R ++ [r])).1) ∧ w'.cell? { block := q2, off := 2 } = some (.bool (neverF (R ++ [r])).2)) (first | exact hc10 | exact hc11 | exact hc12)
                              ((first
                                | (go_at_call 16
                                   (with_reducible refine (T1.out _ (MH.out.below (below_drew (Below.refl _ _)))).mono ?_)
                                   rintro e w11 ⟨rfl, hb11⟩
                                   have MH1 := Lib.hid (MH.out.below ((below_drew (Below.refl _ _)).trans hb11))
                                   have hc11 := MH1.out.cells
                                   clear hb11)
                                | (go_at_call 16
                                   (with_reducible refine (T2.out _ MH1.out).mono ?_)
                                   rintro e w12 ⟨rfl, hb12⟩
                                   have MH2 := Lib.hid (MH1.out.below hb12)
                                   have hc12 := MH2.out.cells
                                   clear hb12)))
                            have hbx := MH2.out.bx.cells
                            clear MH MH1 hc10 hc11 T1 T2
                            have d1 : IntKind.i64.wrap (minM M num + r.f) = minM M num + r.f := IntWalk.i64_in _ (by omega)
                            have d2 : wrap64 (minM M num + r.f) = minM M num + r.f := (i64_w _).symm.trans d1
                            generalize minM M num = m at *
                            by_cases hk : r.k = 4
                            · have q4 : (r.k == 4) = true := beq_iff_eq.2 hk
                              obtain ⟨n1, n2⟩ := hnv hk
                              have q5 : decide (y ≤ x) = true := decide_eq_true n1
                              clear hk hgm hnv
                              cases hh : hit M num with
                              | false =>
                                rw [hh] at MN
                                clear hh n2
                                go_wp2_with (go_at_call 17; (with_reducible refine (MN.out _ MH2.out).mono ?_); rintro e w13 ⟨rfl, hb13⟩; have MH3 := Lib.hid (MH2.out.below hb13); have hbx3 := MH3.out.bx.cells; clear hb13)
                                go_ret
                                exact ⟨rfl, MH3.out.a.kt.bel⟩
                              | true =>
                                rw [hh] at MN
                                obtain ⟨n3, n4⟩ := n2 hh
                                have q6 : decide (y ≤ m + r.f) = true := decide_eq_true n3
                                clear hh n2
                                by_cases hxy : y = x
                                · have q7 : (y == x) = true := beq_iff_eq.2 hxy
                                  clear hxy n4
                                  go_wp2_with (go_at_call 17; (with_reducible refine (MN.out _ MH2.out).mono ?_); rintro e w13 ⟨rfl, hb13⟩; have MH3 := Lib.hid (MH2.out.below hb13); have hbx3 := MH3.out.bx.cells; clear hb13)
                                  go_ret
                                  exact ⟨rfl, MH3.out.a.kt.bel⟩
                                · have q7 : (y == x) = false := beq_eq_false_iff_ne.2 hxy
                                  have q8 : (y == m + r.f) = true := beq_iff_eq.2 (n4.resolve_left hxy)
                                  clear hxy n4
                                  go_wp2_with (go_at_call 17; (with_reducible refine (MN.out _ MH2.out).mono ?_); rintro e w13 ⟨rfl, hb13⟩; have MH3 := Lib.hid (MH2.out.below hb13); have hbx3 := MH3.out.bx.cells; clear hb13)
                                  go_ret
                                  exact ⟨rfl, MH3.out.a.kt.bel⟩
                            · have q4 : (r.k == 4) = false := beq_eq_false_iff_ne.2 hk
                              have q5 : decide (x ≤ y) = true := decide_eq_true (hgm hk)
                              clear hgm hnv hk
                              go_wp2
                              go_ret
                              exact ⟨rfl, MH2.out.a.kt.bel⟩
                      exact AllReadyH.nil
                  exact AllReadyH.nil
              exact AllReadyH.nil
          exact AllReadyH.nil
      exact AllReadyH.nil
  exact AllReadyH.nil
theorem more_any (A0 : Option Addr) (c0 : Nat) (R : List Ru) (r : Ru) (P : Option Addr) (cs : Nat) (L : List Int) (num : Int) (w : World) (hR : Kd.C kRu w A0 R.length R) (hl : R.length ≤ maxLen) (hS : Kd.C (Kd.int .u8) w P L.length L) (hw : ∀ a ∈ L, (Lit.int .u8 a).wf = true) :
    Calls Try.prog 3 #[.slice A0 R.length c0, .agg #[.int .i64 r.k, .int .i64 r.l, .int .i64 r.f], .slice P L.length cs, .int .u64 num] w fun e w' => e = .returned (.bool true) ∧ Below w.heap.size w w' := by
  by_cases h : 30 < L.length ∨ 15 < R.length ∨ rightL R = false ∨ rightB r = false
  · exact more_skip A0 P c0 cs L.length R r num w (ru_row hR) hl h
  · simp only [not_or] at h
    obtain ⟨h1, h2, h3, h4⟩ := h
    exact more_in A0 P c0 cs R r L num w (ru_row hR) (by simpa using h3) (by simpa using h4) (steps_came hS) (steps_wf hw) (by omega) (by omega)
end Go.Proofs.Ytonlbeonblpblaa.All
