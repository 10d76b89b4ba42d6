/-
  The law BranchFree's walk: it tells true of every input. No condition but that the arguments are a uint64 and a uint8.
-/
import Derived.Test.YtaolpniigjmccaaFreeP
import Derived.Test.YtaolpniigjmccaaDeep
namespace Go.Proofs.Ytaolpniigjmccaa.All
open Go.RowKit Go.Proofs.YtaolpniigjmccaaW.PrintWords Go.Proofs.YtaolpniigjmccaaW.PrintLast Go.Proofs.YtaolpniigjmccaaW.PrintMore Go.Proofs.Ytaolpniigjmccaa.Wd
set_option linter.unusedVariables false
set_option linter.unusedSimpArgs false
theorem own_slice {W : World} {base : Nat} {e : TypeId} {v : Value} {n : Nat} {xs : List Value} (h : W.ownsRow base e 1 v n xs) : ∃ A cap, v = .slice A n cap := by
  rcases h.2 with ⟨rfl, rfl⟩ | ⟨g, cap, cur, rfl, _⟩
  · exact ⟨_, _, rfl⟩
  · exact ⟨_, _, rfl⟩
set_option maxRecDepth 100000 in
set_option maxHeartbeats 2000000 in
theorem freelaw_calls (base dr : Int) (w : World) (hb0 : 0 ≤ base) (hb1 : base ≤ 1099511627776) (hd0 : 0 ≤ dr) (hd1 : dr ≤ 255) :
    Calls Try.prog 7 #[.int .u64 base, .int .u8 dr] w fun e w' => e = .returned (.bool true) ∧ Below w.heap.size w w' := by
  have hdb : decide ((1099511627776 : Int) < base) = false := decide_eq_false (by omega)
  have HB0 := Lib.hid hb0
  obtain ⟨d, hd⟩ : ∃ d : Nat, (1 : Int) + Int.tmod dr 15 = (d : Int) ∧ 1 ≤ d ∧ d < 16 := ⟨(1 + Int.tmod dr 15).toNat, by rw [Int.tmod_eq_emod_of_nonneg hd0]; omega, by rw [Int.tmod_eq_emod_of_nonneg hd0]; omega, by rw [Int.tmod_eq_emod_of_nonneg hd0]; omega⟩
  have hde : (1 : Int) + dr % 15 = (d : Int) := by rw [← Int.tmod_eq_emod_of_nonneg hd0]; exact hd.1
  obtain ⟨hdd, h1d, h2d⟩ := hd
  have HDE := Lib.hid hde
  clear hde hdd
  go_enter Try.func7, Try.ntmps7
  go_upto_region 5 with (go_at_call 10; refine (awake_calls _).mono ?_; rintro e w1 ⟨rfl, hb1⟩; replace hb1 := Lib.hid hb1)
  go_upto_region 6 with (go_at_call 11; refine (new_calls _).mono ?_; rintro e w2 ⟨rfl, hA2, hb2⟩; have HI := Lib.hid (Inv.mk (F := growF base 0) hA2 (Below.trans (Hid.out ‹Hid (Below _ w w1)›) (hb2.mono (Below.size (Hid.out ‹Hid (Below _ w w1)›)))) (Below.size (Hid.out ‹Hid (Below _ w w1)›))); clear hA2 hb2)
  obtain ⟨g, hg⟩ : ∃ g, w1.heap.size = g := ⟨_, rfl⟩
  rw [hg] at HI
  rw [hg]
  clear hg
  go_wp2
  go_loopw [6] (fun v6 wr => ∃ k : Nat, v6 = .int .i64 ((k : Int) + 1) ∧ k ≤ 15 ∧ Hid (Inv w wr g (growF base k))) (fun v6 _ => 16 - (intOf v6).toNat)
  case atStart => exact ⟨0, rfl, Nat.zero_le _, HI⟩
  case round =>
    clear HI
    obtain ⟨k, rfl, hk, HI⟩ := hrel
    by_cases hlt : k < 15
    · have FC := fun (W : World) (h : At W g 69 (growF base k)) => free_yes (growF base k) g (k + 1) W h (grow_free base hlt)
      replace FC := Lib.hid FC
      obtain ⟨gc, gf⟩ := grow_fork HB0.out hlt
      have KC := Lib.hid (fun (W : World) (h : At W g 69 (growF base k)) => fork_calls' h gc gf)
      have hk1 := Lib.hid (show k + 1 ≤ 15 by omega)
      clear gc gf
      go_wp2_with (first
        | (go_at_call 23; refine (FC.out _ HI.out.here).mono ?_; rintro e w3 ⟨rfl, hb3⟩; replace HI := Lib.hid (HI.out.below hb3); clear hb3)
        | (go_at_call 13; refine (KC.out _ HI.out.here).mono ?_; rintro e w4 ⟨rfl, hA4, hc4⟩; replace hA4 := Lib.hid (HI.out.chg hc4 hA4); clear hc4))
      go_roundw
      case rel => exact ⟨k + 1, by go_num, hk1.out, hA4⟩
      case measure => simp [intOf]; omega
    · obtain rfl : k = 15 := by omega
      clear hlt hk
      have FC := Lib.hid (fun (W : World) (h : At W g 69 (growF base 15)) => free_no (growF base 15) g W h (grow_full base))
      have KC := fun (W : World) (h : At W g 69 (growF base 15)) => kids_calls (growF base 15) g 0 W h
      rw [grow_kids] at KC
      replace KC := Lib.hid KC
      have BC := Lib.hid (fun (W : World) (h : At W g 69 (growF base 15)) => bases_calls g (growF base 15) W h)
      have BL := Lib.hid (grow_bases base)
      obtain ⟨dc, dk⟩ := grow_drop base h1d h2d
      obtain ⟨df, dfr⟩ := grow_drop_free base h1d h2d
      have DC := Lib.hid (fun (W : World) (h : At W g 69 (growF base 15)) => drop_calls' h dc df)
      have FC2 := Lib.hid (fun (W : World) (h : At W g 69 ((growF base 15).set d tz)) => free_yes _ g d W h dfr)
      have KC2 := fun (W : World) (h : At W g 69 ((growF base 15).set d tz)) => kids_calls _ g 0 W h
      rw [dk] at KC2
      replace KC2 := Lib.hid KC2
      clear dc dk df dfr
      generalize (growF base 15).set d tz = G2 at *
      generalize growF base 15 = G at *
      go_upto_region 15 with (first
        | (go_at_call 23; refine (FC.out _ HI.out.here).mono ?_; rintro e w3 ⟨rfl, hb3⟩; replace HI := Lib.hid (HI.out.below hb3); clear hb3)
        | (go_at_call 19; refine (KC.out _ HI.out.here).mono ?_; rintro e w4 ⟨rfl, hb4⟩; replace HI := Lib.hid (HI.out.below hb4); clear hb4)
        | (go_at_call 18; refine (BC.out _ HI.out.here).mono ?_; rintro e w5 ⟨v5, rfl, ho5, hb5⟩; obtain ⟨A5, cap5, rfl⟩ := own_slice ho5; replace HI := Lib.hid (HI.out.below hb5); clear hb5 ho5; rw [BL.out]))
      go_upto_region 16 with fail
      rw [HDE.out]
      go_wp2_with (first
        | (go_at_call 12; refine (DC.out _ HI.out.here).mono ?_; rintro e w6 ⟨rfl, hA6, hc6⟩; replace hA6 := Lib.hid (HI.out.chg hc6 hA6); clear hc6)
        | (go_at_call 23; refine (FC2.out _ hA6.out.here).mono ?_; rintro e w7 ⟨rfl, hb7⟩; replace hA6 := Lib.hid (hA6.out.below hb7); clear hb7)
        | (go_at_call 19; refine (KC2.out _ hA6.out.here).mono ?_; rintro e w8 ⟨rfl, hb8⟩; replace hA6 := Lib.hid (hA6.out.below hb8); clear hb8))
      go_ret
      exact ⟨rfl, hA6.out.bel⟩
set_option maxRecDepth 100000 in
theorem freelaw_any (base dr : Int) (w : World) (hb : (Lit.int .u64 base).wf = true) (hd : (Lit.int .u8 dr).wf = true) :
    Calls Try.prog 7 #[.int .u64 base, .int .u8 dr] w fun e w' => e = .returned (.bool true) ∧ Below w.heap.size w w' := by
  by_cases h : base ≤ 1099511627776
  · exact freelaw_calls base dr w (wf_u64 hb).1 h (wf_u8 hd).1 (wf_u8 hd).2
  · have h' : 1099511627776 < base := by omega
    go_enter Try.func7, Try.ntmps7
    go_wp2_with (go_at_call 10; refine (awake_calls _).mono ?_; rintro e w1 ⟨rfl, hb1⟩; replace hb1 := Lib.hid hb1)
    go_ret
    exact ⟨rfl, Hid.out ‹Hid (Below _ _ _)›⟩
end Go.Proofs.Ytaolpniigjmccaa.All
