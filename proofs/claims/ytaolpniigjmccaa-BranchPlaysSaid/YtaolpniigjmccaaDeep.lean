/-
  The law BranchDeep's walk: it tells true of every input. Condition: the arguments read as Go's data do.
-/
import Derived.Test.YtaolpniigjmccaaLines
namespace Go.Proofs.Ytaolpniigjmccaa.All
open Go.RowKit Go.Proofs.YtaolpniigjmccaaW.PrintWords Go.Proofs.YtaolpniigjmccaaW.PrintLast Go.Proofs.YtaolpniigjmccaaW.PrintMore Go.Proofs.Ytaolpniigjmccaa.Wd
set_option linter.unusedVariables false
set_option linter.unusedSimpArgs false

theorem line_yes_is {F : List Tw} {id m : Int} (h : lineOk F id m = true) : lineL F id m = (id, (tw F id).n, m) :: tailF F id ∧ lineE F id m = 0 := by
  unfold lineL lineE
  rw [if_pos h, if_pos h]
  exact ⟨rfl, rfl⟩
theorem line_later {F : List Tw} {id m on : Int} (h : lineOk F id m = true) (ho : 0 ≤ on) : lineOk F id (m + on) = true := by
  unfold lineOk at h ⊢
  rw [Bool.and_eq_true, decide_eq_true_eq] at h ⊢
  exact ⟨h.1, by omega⟩
theorem line_up {F : List Tw} (ok : Ok F) {id m : Int} (h : lineOk F id m = true) (hz : id ≠ 0) : isSon F id = true ∧ lineL F (parP F id) (parB F id) = tailF F id ∧ lineE F (parP F id) (parB F id) = 0 := by
  have ha := (lineOk_parts h).1
  have hs := isSon_of ha hz
  have h1 := ok.son id hs
  have hp : parP F id = (tw F id).p := by unfold parP; rw [if_pos hs]
  have hb : parB F id = (tw F id).b := by unfold parB; rw [if_pos hs]
  have hk : lineOk F (tw F id).p (tw F id).b = true := by unfold lineOk; rw [h1.1]; simpa using h1.2.1
  rw [hp, hb]
  exact ⟨hs, by rw [(line_yes_is hk).1, tailF_son ok ha hz]; rfl, (line_yes_is hk).2⟩
theorem Rd.next {g : Nat} {w : World} {A : Option Addr} {s : St} {T : List St} (h : Rd g w A (s :: T)) : ∃ blk, A = some ⟨blk, 0, none⟩ ∧ ∀ k (hk : k < T.length), w.cell? { block := blk, off := (k + 1) * 3 } = some (.int .i64 T[k].1) ∧ w.cell? { block := blk, off := (k + 1) * 3 + 1 } = some (.int .u64 T[k].2.1) ∧ w.cell? { block := blk, off := (k + 1) * 3 + 2 } = some (.int .u64 T[k].2.2) := by
  obtain ⟨blk, h1, h2, h3⟩ := h (by simp)
  exact ⟨blk, h1, fun k hk => h3.cell (i := k + 1) (by simpa using hk)⟩
set_option maxRecDepth 100000 in
set_option maxHeartbeats 2000000 in
theorem deep_calls (A0 : Option Addr) (c0 : Nat) (l : List Ac) (id m on : Int) (w : World) (hr : Kd.C kAc w A0 l.length l) (hwf : ∀ a ∈ l, ActWf a) (hl30 : l.length ≤ 30) (hm0 : 0 ≤ m) (hm1 : m ≤ 1152921504606846976) (ho0 : 0 ≤ on) (ho1 : on ≤ 255) :
    Calls Try.prog 5 #[.slice A0 l.length c0, .int .i64 id, .int .u64 m, .int .u8 on] w fun e w' => e = .returned (.bool true) ∧ Below w.heap.size w w' := by
  have hdm : decide ((1152921504606846976 : Int) < m) = false := decide_eq_false (by omega)
  have HR := Lib.hid hr
  have HWF := Lib.hid hwf
  clear hr hwf
  have hll : ¬ (30 < l.length) := by omega
  have hdl : decide ((30 : Int) < (l.length : Int)) = false := decide_eq_false (by omega)
  go_enter Try.func5, Try.ntmps5
  go_upto_region 5 with (go_at_call 10; refine (awake_calls _).mono ?_; rintro e w1 ⟨rfl, hb1⟩; replace hb1 := Lib.hid hb1)
  go_upto_region 6 with (go_at_call 11; refine (new_calls _).mono ?_; rintro e w2 ⟨rfl, hA2, hb2⟩; have HI := Lib.hid (Inv.mk hA2 (hb1.out.trans (hb2.mono hb1.out.size)) hb1.out.size); clear hA2 hb2)
  clear hb1
  obtain ⟨g, hg⟩ : ∃ g, w1.heap.size = g := ⟨_, rfl⟩
  rw [hg] at HI
  rw [hg]
  clear hg
  go_wp2
  go_loopw [10] (fun v8 wr => ∃ k : Nat, v8 = .int .i64 k ∧ k ≤ l.length ∧ Hid (Inv w wr g (playF newF (l.take k)))) (fun v8 _ => l.length - (intOf v8).toNat)
  case atStart => exact ⟨0, rfl, Nat.zero_le _, HI⟩
  case round =>
    clear HI
    obtain ⟨k, rfl, hk, HI⟩ := hrel
    by_cases hlt : k < l.length
    · obtain ⟨ad, rfl, hA⟩ := act_at HR.out HI.out.bel hlt
      obtain ⟨c0, c1, c2, c3, c4⟩ := hA
      have HP := Lib.hid (play_take hlt newF)
      have hk1 := Lib.hid (show k + 1 ≤ l.length by omega)
      generalize playF newF (l.take k) = F at *
      generalize l[k] = y at *
      cases hd : y.d with
      | true =>
        rw [hd] at c0
        replace hd := Lib.hid hd
        clear c2 c3 c4
        go_wp2_with (go_at_call 12; refine (drop_act HI.out.here hd.out).mono ?_; rintro e w3 ⟨rfl, hA3, hc3⟩; replace hA3 := Lib.hid (HI.out.chg hc3 hA3); clear hc3)
        go_roundw
        case rel => exact ⟨k + 1, by go_num, hk1.out, by rw [HP.out]; exact hA3⟩
        case measure => simp [intOf]; omega
      | false =>
        rw [hd] at c0
        replace hd := Lib.hid hd
        go_upto_region 11 with fail
        go_still_tail 21, (by kernel_rfl)
        change wpList _ _ _ _ _ wr.drew
        replace HI := Lib.hid (HI.out.below (below_drew (Below.refl _ _)))
        generalize wr.drew = wd at *
        clear c0 c1 c2 c3 c4
        go_wp2_with (go_at_call 13; refine (fork_act HI.out.here hd.out).mono ?_; rintro e w3 ⟨rfl, hA3, hc3⟩; replace hA3 := Lib.hid (HI.out.chg hc3 hA3); clear hc3)
        go_roundw
        case rel => exact ⟨k + 1, by go_num, hk1.out, by rw [HP.out]; exact hA3⟩
        case measure => simp [intOf]; omega
    · have hkl : k = l.length := by omega
      subst hkl
      have OK := Lib.hid (ok_take (fun a ha => (wf_u64 (HWF.out a ha).2.2.2.2).2) l.length)
      clear HR HWF
      generalize playF newF (l.take l.length) = F at *
      have LC := line_calls (id := id) (m := m) HI.out.here OK.out
      cases hk : lineOk F id m with
      | false =>
        have hl0 : lineL F id m = [] := by unfold lineL; rw [hk]; rfl
        have he0 : lineE F id m = 4 := by unfold lineE; rw [hk]; rfl
        rw [hl0, he0] at LC
        replace LC := Lib.hid LC
        clear hl0 he0
        go_wp2_with (go_at_call 14; refine LC.out.mono ?_; rintro e w3 ⟨A, cap, rfl, hR3, hb3⟩; replace HI := Lib.hid (HI.out.below hb3); clear hR3 hb3)
        go_ret
        exact ⟨rfl, HI.out.bel⟩
      | true =>
        have LC2 := fun (W : World) (h : At W g 69 F) => line_calls (id := id) (m := m + on) h OK.out
        rw [(line_yes_is hk).1, (line_yes_is hk).2] at LC
        simp only [(line_yes_is (line_later hk ho0)).1, (line_yes_is (line_later hk ho0)).2] at LC2
        replace LC := Lib.hid LC
        replace LC2 := Lib.hid LC2
        have HTL := tail_len17 OK.out (lineOk_parts hk).1
        have hkk := Lib.hid hk
        clear hk
        go_upto_region 15 with (go_at_call 14; refine LC.out.mono ?_; rintro e w3 ⟨A, cap, rfl, hR3, hb3⟩; replace HI := Lib.hid (HI.out.below hb3); replace hR3 := Lib.hid hR3; clear hb3)
        go_upto_region 16 with (go_at_call 14; refine (LC2.out _ HI.out.here).mono ?_; rintro e w4 ⟨A2, cap2, rfl, hR4, hb4⟩; replace HI := Lib.hid (HI.out.below hb4); replace hR3 := Lib.hid (hR3.out.below hb4); replace hR4 := Lib.hid hR4; clear hb4)
        obtain ⟨bl2, hA2, hg2, hs2⟩ := hR4.out (by simp)
        obtain ⟨z0, z1, z2⟩ := hs2.cell (i := 0) (by simp)
        subst hA2
        clear hg2 hs2
        replace z2 : w4.cell? { block := bl2, off := 2 } = some (.int .u64 (m + on)) := z2
        clear z0 z1
        have PC := Lib.hid (fun (W : World) (h : At W g 69 F) => parent_calls F g id W h)
        by_cases hz : id = 0
        · subst hz
          have hT : tailF F 0 = [] := tailF_zero F
          rw [hT] at hR3 hR4 HTL
          rw [hT]
          clear LC LC2 hkk
          generalize (tw F 0).n = n0 at *
          go_upto_region 24 with (go_at_call 16; refine (PC.out _ HI.out.here).mono ?_; rintro e w5 ⟨rfl, hd5⟩; replace HI := Lib.hid (HI.out.below hd5.below); replace hR3 := Lib.hid (hR3.out.below hd5.below); replace hR4 := Lib.hid (hR4.out.below hd5.below); clear hd5)
          go_wp2
          go_loopw [19] (fun v19 wr => v19 = .int .i64 1 ∧ Hid (Inv w wr g F)) (fun v19 _ => 0)
          case atStart => exact ⟨rfl, HI⟩
          case round =>
            clear HI
            obtain ⟨rfl, HI⟩ := hrel
            go_wp2
            go_ret
            exact ⟨rfl, HI.out.bel⟩
        · have hz' : (id == 0) = false := by simpa using hz
          obtain ⟨hs, hl3, he3⟩ := line_up OK.out hkk.out hz
          have PC2 := Lib.hid (fun (W : World) (h : At W g 69 F) => parent_is (b := g) hs rfl rfl h)
          have LC3 := fun (W : World) (h : At W g 69 F) => line_calls (id := parP F id) (m := parB F id) h OK.out
          simp only [hl3, he3] at LC3
          replace LC3 := Lib.hid LC3
          clear hl3 he3 hs LC LC2 hkk PC
          generalize (tw F id).n = n0 at *
          generalize tailF F id = T at *
          generalize parP F id = p at *
          generalize parB F id = b at *
          go_upto_region 21 with (go_at_call 16; refine (PC2.out _ HI.out.here).mono ?_; rintro e w5 ⟨rfl, hd5⟩; replace HI := Lib.hid (HI.out.below hd5.below); replace hR3 := Lib.hid (hR3.out.below hd5.below); replace hR4 := Lib.hid (hR4.out.below hd5.below); clear hd5)
          go_upto_region 22 with (go_at_call 14; refine (LC3.out _ HI.out.here).mono ?_; rintro e w6 ⟨A3, cap3, rfl, hR5, hb5⟩; replace HI := Lib.hid (HI.out.below hb5); replace hR3 := Lib.hid (hR3.out.below hb5); replace hR4 := Lib.hid (hR4.out.below hb5); replace hR5 := Lib.hid hR5; clear hb5)
          clear z2
          obtain ⟨blk, rfl, hc1⟩ := hR3.out.next
          clear hc1
          go_wp2
          go_loopw [19] (fun v19 wr => ∃ k : Nat, v19 = .int .i64 ((k : Int) + 1) ∧ k ≤ T.length ∧ Hid (Inv w wr g F) ∧ Hid (Rd g wr (some ⟨blk, 0, none⟩) ((id, n0, m) :: T)) ∧ Hid (Rd g wr (some ⟨bl2, 0, none⟩) ((id, n0, m + on) :: T)) ∧ Hid (Rd g wr A3 T)) (fun v19 _ => T.length + 1 - (intOf v19).toNat)
          case atStart => exact ⟨0, rfl, Nat.zero_le _, HI, hR3, hR4, hR5⟩
          case round =>
            clear HI hR3 hR4 hR5
            obtain ⟨k, rfl, hk, HI, hR3, hR4, hR5⟩ := hrel
            by_cases hlt : k < T.length
            · obtain ⟨b1, hbe, hc1⟩ := hR3.out.next
              obtain rfl : blk = b1 := by simpa using hbe
              obtain ⟨b2, hbe2, hc2⟩ := hR4.out.next
              obtain rfl : bl2 = b2 := by simpa using hbe2
              obtain ⟨b3, rfl, hc3⟩ := hR5.out.cell hlt
              obtain ⟨e0, e1, e2⟩ := hc1 k hlt
              obtain ⟨f0, f1, f2⟩ := hc2 k hlt
              obtain ⟨g0, g1, g2⟩ := hc3
              clear hc1 hc2 hbe hbe2
              have hk1 := Lib.hid (show k + 1 ≤ T.length by omega)
              have hin : (0 : Int) ≤ (k : Int) + 1 := by omega
              have hsub : ((k : Int) + 1).toNat = k + 1 := by omega
              have hsub2 : (k : Int) + 1 - 1 = (k : Int) := by omega
              go_upto_region 27 with fail
              go_quiet (fail)
              clear e0 e1 e2 f0 f1 f2 g0 g1 g2 hin hsub hsub2
              go_wp2
              go_roundw
              case rel => exact ⟨k + 1, by go_num, hk1.out, Lib.hid (HI.out.below (pw_below_drewN (Below.refl _ _) _)), Lib.hid (hR3.out.below (pw_below_drewN (Below.refl _ _) _)), Lib.hid (hR4.out.below (pw_below_drewN (Below.refl _ _) _)), Lib.hid (hR5.out.below (pw_below_drewN (Below.refl _ _) _))⟩
              case measure => simp [intOf]; omega
            · go_wp2
              go_ret
              exact ⟨rfl, HI.out.bel⟩
set_option maxRecDepth 100000 in
theorem deep_skip (A0 : Option Addr) (c0 : Nat) (n : Nat) (id m on : Int) (w : World) (h : 30 < n ∨ (n ≤ 30 ∧ 1152921504606846976 < m)) :
    Calls Try.prog 5 #[.slice A0 n c0, .int .i64 id, .int .u64 m, .int .u8 on] w fun e w' => e = .returned (.bool true) ∧ Below w.heap.size w w' := by
  rcases h with h | ⟨h, h'⟩
  · go_enter Try.func5, Try.ntmps5
    go_wp2_with (go_at_call 10; refine (awake_calls _).mono ?_; rintro e w1 ⟨rfl, hb1⟩; replace hb1 := Lib.hid hb1)
    go_ret
    exact ⟨rfl, Hid.out ‹_›⟩
  · have hl : ¬ 30 < n := by omega
    go_enter Try.func5, Try.ntmps5
    go_wp2_with (go_at_call 10; refine (awake_calls _).mono ?_; rintro e w1 ⟨rfl, hb1⟩; replace hb1 := Lib.hid hb1)
    go_ret
    exact ⟨rfl, Hid.out ‹Hid (Below _ _ _)›⟩
theorem wf_u8 {n : Int} (h : (Lit.int .u8 n).wf = true) : 0 ≤ n ∧ n ≤ 255 := by
  have k : IntKind.u8.min ≤ n ∧ n ≤ IntKind.u8.max := by simpa [Lit.wf] using h
  have e1 : IntKind.u8.min = 0 := rfl
  have e2 : IntKind.u8.max = 255 := rfl
  omega
theorem deep_any (A0 : Option Addr) (c0 : Nat) (l : List Ac) (id m on : Int) (w : World) (hr : Kd.C kAc w A0 l.length l) (hwf : ∀ a ∈ l, ActWf a) (hm : 0 ≤ m) (ho : (Lit.int .u8 on).wf = true) :
    Calls Try.prog 5 #[.slice A0 l.length c0, .int .i64 id, .int .u64 m, .int .u8 on] w fun e w' => e = .returned (.bool true) ∧ Below w.heap.size w w' := by
  by_cases h : l.length ≤ 30
  · by_cases hm1 : m ≤ 1152921504606846976
    · exact deep_calls A0 c0 l id m on w hr hwf h hm hm1 (wf_u8 ho).1 (wf_u8 ho).2
    · exact deep_skip A0 c0 l.length id m on w (.inr ⟨h, by omega⟩)
  · exact deep_skip A0 c0 l.length id m on w (.inl (by omega))
end Go.Proofs.Ytaolpniigjmccaa.All
