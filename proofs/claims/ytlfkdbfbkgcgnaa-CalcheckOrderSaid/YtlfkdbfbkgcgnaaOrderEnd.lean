/-
  The law CalcheckOrder: it tells true of any list of rules and any byte. No condition.
-/
import Derived.Test.YtlfkdbfbkgcgnaaOrder
import Derived.Test.YtlfkdbfbkgcgnaaCheckA
namespace Go.Proofs.Ytlfkdbfbkgcgnaa.All
open Go.RowKit Go.Proofs.YtlfkdbfbkgcgnaaW.PrintWords Go.Proofs.YtlfkdbfbkgcgnaaW.PrintLast Go.Proofs.YtlfkdbfbkgcgnaaW.PrintMore Go.Proofs.Ytlfkdbfbkgcgnaa.Pl
set_option linter.unusedVariables false
set_option linter.unusedSimpArgs false

theorem rd_nat (cs : List S30) (n : Nat) (h : n < cs.length) : rd_T30 cs (n : Int) = cs[n] := by
  show cs.getD (n : Int).toNat z30 = cs[n]
  rw [Int.toNat_natCast, List.getD_eq_getElem?_getD, List.getElem?_eq_getElem h]
  rfl
theorem good_chk (l : List S33) : Good (chk l l.length) := by
  intro j h0 h1
  obtain ⟨n, rfl⟩ : ∃ n : Nat, j = (n : Int) := ⟨j.toNat, by omega⟩
  have hn : n < (chk l l.length).length := by omega
  obtain ⟨p, q, hp, hq, hpq, hw, he⟩ := chk_at hn
  have e1 : rd_T30 (chk l l.length) (n : Int) = ⟨p, q, whyP (l.getD p z33) (l.getD q z33) (decide (q < p))⟩ := by
    rw [← he]
    rfl
  have hm := whyP_most (l.getD p z33) (l.getD q z33) (decide (q < p))
  have k1 : (((p : Int) == (q : Int)) : Bool) = false := beq_eq_false_iff_ne.2 (by omega)
  have k5 : whyP (l.getD p z33) (l.getD q z33) (decide (q < p)) = 1 ∨ whyP (l.getD p z33) (l.getD q z33) (decide (q < p)) = 2 ∨ whyP (l.getD p z33) (l.getD q z33) (decide (q < p)) = 3 := by omega
  by_cases hz : n = 0
  · subst hz
    refine ⟨-1, 0, 0, rfl, ?_⟩
    rw [e1]
    refine ⟨k1, decide_eq_false (by show ¬ (p : Int) < -1; omega), fun h => ?_, k5⟩
    have : (p : Int) = -1 := beq_iff_eq.1 h
    omega
  · have hr := (List.pairwise_iff_getElem.1 (chk_rises l l.length)) (n - 1) n (by omega) hn (by omega)
    have e2 : rd_T30 (chk l l.length) ((n : Int) - 1) = (chk l l.length)[n - 1]'(by omega) := by
      rw [show (n : Int) - 1 = ((n - 1 : Nat) : Int) by omega]
      exact rd_nat _ _ _
    have e3 := rd_nat (chk l l.length) n hn
    refine ⟨(rd_T30 (chk l l.length) ((n : Int) - 1)).f0, (rd_T30 (chk l l.length) ((n : Int) - 1)).f1, (rd_T30 (chk l l.length) ((n : Int) - 1)).f2, ?_, ?_⟩
    · unfold lastA
      rw [if_neg (by omega)]
    · rw [e2]
      rw [← e3] at hr
      refine ⟨by rw [e1]; exact k1, decide_eq_false ?_, fun h => decide_eq_false ?_, by rw [e1]; exact k5⟩
      · rcases hr with hr | hr <;> omega
      · have := beq_iff_eq.1 h
        rcases hr with hr | hr <;> omega
def OrdOk (a1 : Int) (r : Bool) : Prop := (0 ≤ a1 ∧ a1 < 256) ∧ r = true
theorem Pl.order_ok (l0 : List S33) (a1 : Int) (h : (Lit.int .u8 a1).wf = true) : OrdOk a1 true := by
  simp [Lit.wf, IntKind.min, IntKind.max, IntKind.signed, IntKind.bits] at h
  exact ⟨by omega, rfl⟩
set_option maxHeartbeats 8000000 in
set_option maxRecDepth 100000 in
theorem order_none (k : Nat) (A0 : Option Addr) (c0 : Nat) (l0 : List (S33)) (a1 : Int) (w : World) (A30 : erewhilelaw35_awake.f k = some true) (hn : l0.length = 0) :
    Calls Try.prog 8 #[.slice A0 l0.length c0, .int .u8 a1] w fun e w' => e = .returned (.bool true) ∧ Below w.heap.size w w' := by
  have HB := Aside0.mk (Below.refl w.heap.size w)
  have A3 := Aside0.mk A30
  clear A30
  have c5b0 : ((l0.length : Int) == 0) = true := beq_iff_eq.mpr (by omega)
  have c5b1 : ((l0.length : Int) != 0) = false := bne_eq_false_iff_eq.mpr (by omega)
  clear hn
  go_enter Try.func8, Try.ntmps8
  go_wp2_with (first | ((with_reducible refine gate_callee (f := 10) rfl ?_); refine goesL_ (some 13) rfl rfl Try.func10 (by kernel_rfl) rfl #[] rfl (by (try simp only [List.map_toArray, List.map_cons, List.map_nil]); first | done | rfl | (simp only [List.length_drop, List.length_take]; rfl)) ?_; (with_reducible refine (erewhilelaw35_awake.calls k  true _ A3.out).mono ?_); rintro e w16 ⟨rfl, hb⟩; refine ⟨_, rfl, ?_⟩; have n0_ := Aside0.mk (below_step (by repeat (first | (with_reducible first | exact HB.out | apply below_alloc | apply pw_below_drewN | apply below_drew1) | exact HB.out)) hb); clear HB; have HB := n0_; clear n0_; (try clear hb); (try clear hb2); (try clear hk); (try clear hi)))
  go_ret
  exact ⟨by first | rfl | simp, HB.out⟩
set_option maxHeartbeats 8000000 in
set_option maxRecDepth 100000 in
theorem order_many (k : Nat) (A0 : Option Addr) (c0 : Nat) (l0 : List (S33)) (a1 : Int) (w : World) (A30 : erewhilelaw35_awake.f k = some true) (hn : 30 < l0.length) :
    Calls Try.prog 8 #[.slice A0 l0.length c0, .int .u8 a1] w fun e w' => e = .returned (.bool true) ∧ Below w.heap.size w w' := by
  have HB := Aside0.mk (Below.refl w.heap.size w)
  have A3 := Aside0.mk A30
  clear A30
  have c5b0 : ((l0.length : Int) == 0) = false := beq_eq_false_iff_ne.mpr (by omega)
  have c5b1 : ((l0.length : Int) != 0) = true := bne_iff_ne.mpr (by omega)
  have c5b2 : ¬ (l0 = []) := fun h_ => by rw [h_] at hn; simp at hn
  have c7b0 : decide (30 < (l0.length : Int)) = true := decide_eq_true (by omega)
  have c7b1 : decide (30 < l0.length) = true := decide_eq_true hn
  clear hn
  go_enter Try.func8, Try.ntmps8
  go_wp2_with (first | ((with_reducible refine gate_callee (f := 10) rfl ?_); refine goesL_ (some 13) rfl rfl Try.func10 (by kernel_rfl) rfl #[] rfl (by (try simp only [List.map_toArray, List.map_cons, List.map_nil]); first | done | rfl | (simp only [List.length_drop, List.length_take]; rfl)) ?_; (with_reducible refine (erewhilelaw35_awake.calls k  true _ A3.out).mono ?_); rintro e w16 ⟨rfl, hb⟩; refine ⟨_, rfl, ?_⟩; have n0_ := Aside0.mk (below_step (by repeat (first | (with_reducible first | exact HB.out | apply below_alloc | apply pw_below_drewN | apply below_drew1) | exact HB.out)) hb); clear HB; have HB := n0_; clear n0_; (try clear hb); (try clear hb2); (try clear hk); (try clear hi)))
  go_ret
  exact ⟨by first | rfl | simp, HB.out⟩
theorem erewhilelaw35_CalcheckOrder.calls (A0 : Option Addr) (c0 : Nat) (l0 : List (S33)) (a1 : Int) (r : Bool) (w : World) (hr0 : Kd.C k33 w A0 l0.length l0) (hc0 : l0.length ≤ c0) (h : OrdOk a1 r) :
    Calls Try.prog 8 #[.slice A0 l0.length c0, .int .u8 a1] w fun e w' => e = .returned (.bool r) ∧ Below w.heap.size w w' := by
  obtain ⟨⟨h0, h1⟩, rfl⟩ := h
  obtain ⟨n1, e1⟩ := Pl.awake_ev
  by_cases hz : l0.length = 0
  · exact order_none n1 A0 c0 l0 a1 w (e1 n1 (Nat.le_refl _)) hz
  · by_cases hm : 30 < l0.length
    · exact order_many n1 A0 c0 l0 a1 w (e1 n1 (Nat.le_refl _)) hm
    · have hw : wrap64 a1 = a1 := by unfold wrap64; omega
      have hj : Int.tmod (wrap64 a1) (l0.length : Int) = a1 % (l0.length : Int) := by rw [hw, Int.tmod_eq_emod_of_nonneg h0]
      have hj0 : 0 ≤ a1 % (l0.length : Int) := Int.emod_nonneg _ (by omega)
      have hj1 : a1 % (l0.length : Int) < (l0.length : Int) := Int.emod_lt_of_pos _ (by omega)
      generalize a1 % (l0.length : Int) = j at hj hj0 hj1
      have hk : j.toNat ≤ l0.length := by omega
      have hl := turned_len l0 j.toNat hk
      obtain ⟨n2, e2⟩ := check_ev l0 (by omega)
      obtain ⟨n3, e3⟩ := check_ev (turned l0 j.toNat) (by omega)
      refine order_calls (n1 + n2 + n3) A0 c0 l0 a1 w hr0 hc0 (e1 _ (by omega)) (by omega) (by omega) j hj hj0 (by omega) (turned l0 j.toNat) rfl ?_ (good_chk _) (good_chk _) (e2 _ (by omega)) (e3 _ (by omega))
      intro i
      unfold cntV
      rw [cnt_turned ((i : Int) + 1) (by omega) l0 j.toNat hk]
end Go.Proofs.Ytlfkdbfbkgcgnaa.All
