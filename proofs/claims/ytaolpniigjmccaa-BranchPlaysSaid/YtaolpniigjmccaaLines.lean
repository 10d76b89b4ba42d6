/-
  The law BranchLines' walk: it tells true of every input. Condition: the arguments read as Go's data do.
-/
import Derived.Test.YtaolpniigjmccaaKeep
import Derived.Test.YtaolpniigjmccaaLinesP
namespace Go.Proofs.Ytaolpniigjmccaa.All
open Go.RowKit Go.Proofs.YtaolpniigjmccaaW.PrintWords Go.Proofs.YtaolpniigjmccaaW.PrintLast Go.Proofs.YtaolpniigjmccaaW.PrintMore Go.Proofs.Ytaolpniigjmccaa.Wd
set_option linter.unusedVariables false
set_option linter.unusedSimpArgs false

theorem num_is {F : List Tw} {b : Nat} {id n : Int} {w : World} (ha : aliveF F id = true) (hn : numF F id = n) (h : At w b 69 F) :
    Calls Try.prog 15 #[.pointer (some ⟨b, 0, none⟩), .int .i64 id] w fun e w' => e = .returned (.tuple #[.int .u64 n, .bool true]) ∧ w = w' := by
  subst hn
  have := num_calls F b id w h
  rw [ha] at this
  exact this
theorem parent_is {F : List Tw} {b : Nat} {id p u : Int} {w : World} (hs : isSon F id = true) (hp : parP F id = p) (hu : parB F id = u) (h : At w b 69 F) :
    Calls Try.prog 16 #[.pointer (some ⟨b, 0, none⟩), .int .i64 id] w fun e w' => e = .returned (.tuple #[.int .i64 p, .int .u64 u, .bool true]) ∧ Drawn0 w w' := by
  subst hp hu
  have := parent_calls F b id w h
  rw [hs] at this
  exact this
theorem Rd.cell_at {g : Nat} {w : World} {blk : Nat} {L : List St} (h : Rd g w (some ⟨blk, 0, none⟩) L) {i : Nat} (hi : i < L.length) : w.cell? { block := blk, off := i * 3 } = some (.int .i64 L[i].1) ∧ w.cell? { block := blk, off := i * 3 + 1 } = some (.int .u64 L[i].2.1) ∧ w.cell? { block := blk, off := i * 3 + 2 } = some (.int .u64 L[i].2.2) := by
  obtain ⟨b, he, h1⟩ := h.cell hi
  obtain rfl : blk = b := by simpa using he
  exact h1
theorem lineOk_parts {F : List Tw} {id m : Int} (h : lineOk F id m = true) : aliveF F id = true ∧ (tw F id).n ≤ m := by
  unfold lineOk at h
  rw [Bool.and_eq_true, decide_eq_true_eq] at h
  exact h
set_option maxRecDepth 100000 in
set_option maxHeartbeats 2000000 in
theorem lines_calls (A0 : Option Addr) (c0 : Nat) (l : List Ac) (id m : Int) (w : World) (hr : Kd.C kAc w A0 l.length l) (hwf : ∀ a ∈ l, ActWf a) (hl30 : l.length ≤ 30) :
    Calls Try.prog 4 #[.slice A0 l.length c0, .int .i64 id, .int .u64 m] w fun e w' => e = .returned (.bool true) ∧ Below w.heap.size w w' := by
  have HR := Lib.hid hr
  have HWF := Lib.hid hwf
  clear hr hwf
  have hll : ¬ (30 < l.length) := by omega
  have hdl : decide ((30 : Int) < (l.length : Int)) = false := decide_eq_false (by omega)
  go_enter Try.func4, Try.ntmps4
  go_upto_region 5 with (go_at_call 10; refine (awake_calls _).mono ?_; rintro e w1 ⟨rfl, hb1⟩; replace hb1 := Lib.hid hb1)
  go_upto_region 6 with (go_at_call 11; refine (new_calls _).mono ?_; rintro e w2 ⟨rfl, hA2, hb2⟩; have HI := Lib.hid (Inv.mk hA2 (hb1.out.trans (hb2.mono hb1.out.size)) hb1.out.size); clear hA2 hb2)
  clear hb1
  obtain ⟨g, hg⟩ : ∃ g, w1.heap.size = g := ⟨_, rfl⟩
  rw [hg] at HI
  rw [hg]
  clear hg
  go_wp2
  go_loopw [8] (fun v8 wr => ∃ k : Nat, v8 = .int .i64 k ∧ k ≤ l.length ∧ Hid (Inv w wr g (playF newF (l.take k)))) (fun v8 _ => l.length - (intOf v8).toNat)
  case atStart => exact ⟨0, rfl, Nat.zero_le _, HI⟩
  case round =>
    clear HI
    obtain ⟨k, rfl, hk, HI⟩ := hrel
    by_cases hlt : k < l.length
    · obtain ⟨ad, rfl, hA⟩ := act_at HR.out HI.out.bel hlt
      obtain ⟨c0, c1, c2, c3, c4⟩ := hA
      have HP := Lib.hid (play_take hlt newF)
      have hk1 := Lib.hid (show k + 1 ≤ l.length by omega)
      generalize playF newF (l.take k) = F at *
      generalize l[k] = y at *
      cases hd : y.d with
      | true =>
        rw [hd] at c0
        replace hd := Lib.hid hd
        clear c2 c3 c4
        go_wp2_with (go_at_call 12; refine (drop_act HI.out.here hd.out).mono ?_; rintro e w3 ⟨rfl, hA3, hc3⟩; replace hA3 := Lib.hid (HI.out.chg hc3 hA3); clear hc3)
        go_roundw
        case rel => exact ⟨k + 1, by go_num, hk1.out, by rw [HP.out]; exact hA3⟩
        case measure => simp [intOf]; omega
      | false =>
        rw [hd] at c0
        replace hd := Lib.hid hd
        go_upto_region 11 with fail
        go_still_tail 21, (by kernel_rfl)
        change wpList _ _ _ _ _ wr.drew
        replace HI := Lib.hid (HI.out.below (below_drew (Below.refl _ _)))
        generalize wr.drew = wd at *
        clear c0 c1 c2 c3 c4
        go_wp2_with (go_at_call 13; refine (fork_act HI.out.here hd.out).mono ?_; rintro e w3 ⟨rfl, hA3, hc3⟩; replace hA3 := Lib.hid (HI.out.chg hc3 hA3); clear hc3)
        go_roundw
        case rel => exact ⟨k + 1, by go_num, hk1.out, by rw [HP.out]; exact hA3⟩
        case measure => simp [intOf]; omega
    · have hkl : k = l.length := by omega
      subst hkl
      have OK := Lib.hid (ok_take (fun a ha => (wf_u64 (HWF.out a ha).2.2.2.2).2) l.length)
      clear HR HWF
      generalize playF newF (l.take l.length) = F at *
      have LC := line_calls (id := id) (m := m) HI.out.here OK.out
      cases hk : lineOk F id m with
      | false =>
        have hl0 : lineL F id m = [] := by unfold lineL; rw [hk]; rfl
        have he0 : lineE F id m = 4 := by unfold lineE; rw [hk]; rfl
        rw [hl0, he0] at LC
        replace LC := Lib.hid LC
        clear hl0 he0
        have NC := fun W h => num_calls F g id W h
        cases ha : aliveF F id with
        | false =>
          rw [ha] at NC
          replace NC := Lib.hid NC
          go_wp2_with (first | (go_at_call 14; refine LC.out.mono ?_; rintro e w3 ⟨A, cap, rfl, hR3, hb3⟩; replace HI := Lib.hid (HI.out.below hb3); clear hR3 hb3) | (go_at_call 15; refine (NC.out _ HI.out.here).mono ?_; rintro e w4 ⟨rfl, rfl⟩))
          go_ret
          exact ⟨rfl, HI.out.bel⟩
        | true =>
          have hn : numF F id = (tw F id).n := by unfold numF; rw [if_pos ha]
          rw [ha, hn] at NC
          replace NC := Lib.hid NC
          have hlt2 : m < (tw F id).n := by unfold lineOk at hk; rw [ha] at hk; simpa using hk
          clear hn
          go_wp2_with (first | (go_at_call 14; refine LC.out.mono ?_; rintro e w3 ⟨A, cap, rfl, hR3, hb3⟩; replace HI := Lib.hid (HI.out.below hb3); clear hR3 hb3) | (go_at_call 15; refine (NC.out _ HI.out.here).mono ?_; rintro e w4 ⟨rfl, rfl⟩))
          go_ret
          exact ⟨rfl, HI.out.bel⟩
      | true =>
        have hlf : lineL F id m = lineF F id m := by unfold lineL; rw [if_pos hk]
        have he0 : lineE F id m = 0 := by unfold lineE; rw [if_pos hk]
        have HL := Lib.hid (line_law OK.out (lineOk_parts hk).1 (lineOk_parts hk).2)
        rw [hlf, he0] at LC
        clear hlf he0 hk
        generalize lineF F id m = L at *
        replace LC := Lib.hid LC
        have hlo := HL.out.lo
        have hhi := HL.out.hi
        go_upto_region 16 with (go_at_call 14; refine LC.out.mono ?_; rintro e w3 ⟨A, cap, rfl, hR3, hb3⟩; replace HI := Lib.hid (HI.out.below hb3); replace hR3 := Lib.hid hR3; clear hb3)
        clear LC
        obtain ⟨blk, rfl, e0, e1, e2⟩ := hR3.out.cell hlo
        obtain ⟨blk', hbe, f0, f1, f2⟩ := hR3.out.cell (show L.length - 1 < L.length by omega)
        obtain rfl : blk = blk' := by simpa using hbe
        rw [(HL.out.head hlo).1] at e0
        rw [(HL.out.head hlo).2] at e2
        rw [(HL.out.last (by omega)).1] at f0
        rw [(HL.out.last (by omega)).2] at f1
        have hd1 : decide ((L.length : Int) < 1) = false := decide_eq_false (by omega)
        have hd2 : decide ((16 : Int) < (L.length : Int)) = false := decide_eq_false (by omega)
        have hsub : ((L.length : Int) - 1).toNat = L.length - 1 := by omega
        have hin : (0 : Int) ≤ (L.length : Int) - 1 := by omega
        clear hbe
        go_wp2
        clear e0 e1 e2 f0 f1 f2 hsub hin
        go_loopw [13] (fun v13 wr => ∃ i : Nat, v13 = .int .i64 i ∧ i ≤ L.length ∧ Hid (Inv w wr g F) ∧ Hid (Rd g wr (some ⟨blk, 0, none⟩) L)) (fun v13 _ => L.length - (intOf v13).toNat)
        case atStart => exact ⟨0, rfl, Nat.zero_le _, HI, hR3⟩
        case round =>
          clear HI hR3
          obtain ⟨i, rfl, hi, HI, hR3⟩ := hrel
          by_cases hlt : i < L.length
          · have hi1 := Lib.hid (show i + 1 ≤ L.length by omega)
            obtain ⟨b1, hbe, e0, e1, e2⟩ := hR3.out.cell hlt
            obtain rfl : blk = b1 := by simpa using hbe
            clear hbe
            obtain ⟨ha, hn, hu⟩ := HL.out.each i hlt
            have NC := Lib.hid (fun W h => num_is (F := F) (b := g) (w := W) ha hn h)
            have HAP := Lib.hid (fun k (hk : k < L.length) (hki : k < i) => HL.out.apart i k hlt hk hki)
            have HNX : Hid (∀ (h : 0 < i), isSon F (L[i - 1]'(by omega)).1 = true ∧ parP F (L[i - 1]'(by omega)).1 = L[i].1 ∧ parB F (L[i - 1]'(by omega)).1 = L[i].2.2 ∧ L[i].2.2 < (L[i - 1]'(by omega)).2.1 ∧ L[i].2.2 ≤ (L[i - 1]'(by omega)).2.2) := fun h => by
              obtain ⟨j, rfl⟩ : ∃ j, i = j + 1 := ⟨i - 1, by omega⟩
              exact HL.out.next j hlt
            clear ha hn
            have HC := Lib.hid (fun (W : World) (hR : Rd g W (some ⟨blk, 0, none⟩) L) => hR.cell_at hlt)
            generalize L[i].1 = a at *
            generalize L[i].2.1 = n at *
            generalize L[i].2.2 = u at *
            go_upto_region 24 with (go_at_call 15; refine (NC.out _ HI.out.here).mono ?_; rintro e w4 ⟨rfl, rfl⟩)
            go_wp2
            clear e1 e2
            obtain ⟨wo, hwo⟩ : ∃ wo : World, wo = wr := ⟨_, rfl⟩
            rw [← hwo] at HI hR3 e0
            rw [← hwo]
            clear hwo
            go_loopw [16] (fun v16 wr => ∃ k : Nat, v16 = .int .i64 k ∧ k ≤ i ∧ Hid (Inv w wr g F) ∧ Hid (Rd g wr (some ⟨blk, 0, none⟩) L) ∧ wr.cell? { block := blk, off := i * 3 } = some (.int .i64 a)) (fun v16 _ => i - (intOf v16).toNat)
            case atStart => exact ⟨0, rfl, Nat.zero_le _, HI, hR3, e0⟩
            case round =>
              clear HI hR3 e0
              obtain ⟨k, rfl, hk, HI, hR3, e0⟩ := hrel
              by_cases hki : k < i
              · obtain ⟨b1, hbe, f0, f1, f2⟩ := hR3.out.cell (show k < L.length by omega)
                obtain rfl : blk = b1 := by simpa using hbe
                clear hbe f1 f2
                have hne : (L[k].1 == a) = false := by simpa using HAP.out k (by omega) hki
                generalize L[k].1 = a' at *
                have hk1 := Lib.hid (show k + 1 ≤ i by omega)
                go_upto_region 27 with fail
                go_quiet (fail)
                go_wp2
                go_roundw
                case rel => exact ⟨k + 1, by go_num, hk1.out, Lib.hid (HI.out.below (pw_below_drewN (Below.refl _ _) _)), Lib.hid (hR3.out.below (pw_below_drewN (Below.refl _ _) _)), e0⟩
                case measure => simp [intOf]; omega
              · by_cases hz : i = 0
                · subst hz
                  go_wp2
                  go_roundw
                  case rel => exact ⟨0 + 1, by go_num, hi1.out, HI, hR3⟩
                  case measure => simp [intOf]; omega
                · have hpos : 0 < i := by omega
                  have hz' : ((i : Int) == 0) = false := by simpa using hz
                  obtain ⟨b1, hbe, f0, f1, f2⟩ := hR3.out.cell (show i - 1 < L.length by omega)
                  obtain rfl : blk = b1 := by simpa using hbe
                  clear hbe f1 f2
                  obtain ⟨hs, hp, hb, hlt3, hle3⟩ := HNX.out hpos
                  have PC := Lib.hid (fun W h => parent_is (F := F) (b := g) (w := W) hs hp hb h)
                  clear hs hp hb HAP HNX NC
                  have hsub : ((i : Int) - 1).toNat = i - 1 := by omega
                  have hin : (0 : Int) ≤ (i : Int) - 1 := by omega
                  have hin2 : (i : Int) - 1 < (L.length : Int) := by omega
                  go_upto_region 31 with (go_at_call 16; refine (PC.out _ HI.out.here).mono ?_; rintro e w5 ⟨rfl, hd5⟩; replace HI := Lib.hid (HI.out.below hd5.below); replace hR3 := Lib.hid (hR3.out.below hd5.below); clear hd5)
                  obtain ⟨e0, e1, e2⟩ := HC.out _ hR3.out
                  obtain ⟨f0, f1, f2⟩ := hR3.out.cell_at (show i - 1 < L.length by omega)
                  generalize L[i - 1].1 = a' at *
                  generalize L[i - 1].2.1 = n' at *
                  generalize L[i - 1].2.2 = u' at *
                  have q1 : decide (n' ≤ u) = false := decide_eq_false (by omega)
                  have q2 : decide (u' < u) = false := decide_eq_false (by omega)
                  go_quiet (fail)
                  clear hsub hin hin2 e0 e1 e2 f0 f1 f2 q1 q2
                  go_wp2
                  go_roundw
                  case rel => exact ⟨i + 1, by go_num, hi1.out, Lib.hid (HI.out.below (pw_below_drewN (Below.refl _ _) _)), Lib.hid (hR3.out.below (pw_below_drewN (Below.refl _ _) _))⟩
                  case measure => simp [intOf]; omega
          · go_wp2
            go_ret
            exact ⟨rfl, HI.out.bel⟩
set_option maxRecDepth 100000 in
theorem lines_skip (A0 : Option Addr) (c0 : Nat) (n : Nat) (id m : Int) (w : World) (h : 30 < n) :
    Calls Try.prog 4 #[.slice A0 n c0, .int .i64 id, .int .u64 m] w fun e w' => e = .returned (.bool true) ∧ Below w.heap.size w w' := by
  go_enter Try.func4, Try.ntmps4
  go_wp2_with (go_at_call 10; refine (awake_calls _).mono ?_; rintro e w1 ⟨rfl, hb1⟩; replace hb1 := Lib.hid hb1)
  go_ret
  exact ⟨rfl, Hid.out ‹_›⟩
theorem lines_any (A0 : Option Addr) (c0 : Nat) (l : List Ac) (id m : Int) (w : World) (hr : Kd.C kAc w A0 l.length l) (hwf : ∀ a ∈ l, ActWf a) :
    Calls Try.prog 4 #[.slice A0 l.length c0, .int .i64 id, .int .u64 m] w fun e w' => e = .returned (.bool true) ∧ Below w.heap.size w w' := by
  by_cases h : l.length ≤ 30
  · exact lines_calls A0 c0 l id m w hr hwf h
  · exact lines_skip A0 c0 l.length id m w (by omega)
end Go.Proofs.Ytaolpniigjmccaa.All
