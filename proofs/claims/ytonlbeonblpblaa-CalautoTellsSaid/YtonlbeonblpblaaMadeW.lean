/-
  The tables that the laws make, walked where none is released.
-/
import Derived.Test.YtonlbeonblpblaaMade
namespace Go.Proofs.Ytonlbeonblpblaa.All
open Go.RowKit Go.Proofs.YtonlbeonblpblaaW.PrintWords Go.Proofs.YtonlbeonblpblaaW.PrintLast Go.Proofs.YtonlbeonblpblaaW.PrintMore Go.Proofs.Ytonlbeonblpblaa.Wd
set_option linter.unusedVariables false
set_option linter.unusedSimpArgs false
private theorem ym (motive : Option Value → Sort _) (h1 : (b : Bool) → motive (some (.bool b))) (h2 : (x : Option Value) → motive x) : Go.yielded.match_1 motive (some undef) h1 h2 = h2 (some undef) := rfl
attribute [local go_sem, local simp] ym
/-- Both tables after so many steps. -/
structure MK (w wr : World) (g : Nat) (N N2 : List It) : Prop where
  t : ∃ A c, TAt wr w.heap.size w.heap.size A c N
  x : ∃ An Am Ao cn cm co, XTab wr g An Am Ao cn cm co N2
  bel : Below w.heap.size w wr
  g1 : w.heap.size < g
theorem MK.add {w wr w2 : World} {g : Nat} {N N2 N' : List It} (h : MK w wr g N N2) (ht : ∃ A c, TAt w2 w.heap.size w.heap.size A c N') (hk : TK w.heap.size w.heap.size wr w2) : MK w w2 g N' N2 := by
  obtain ⟨A, c, h1⟩ := h.t
  obtain ⟨An, Am, Ao, cn, cm, co, h2⟩ := h.x
  exact ⟨ht, ⟨_, _, _, _, _, _, h2.tk hk h1.head⟩, hk.below h.bel (Nat.le_refl _) (Nat.le_refl _) h.bel.size, h.g1⟩
theorem MK.radd {w wr w2 : World} {g : Nat} {N N2 N' : List It} (h : MK w wr g N N2) (hx : ∃ An Am Ao cn cm co, XTab w2 g An Am Ao cn cm co N') (hk : Chg (· = g) wr w2) : MK w w2 g N N' := by
  obtain ⟨A, c, h1⟩ := h.t
  obtain ⟨An, Am, Ao, cn, cm, co, h2⟩ := h.x
  have hg := h.g1
  refine ⟨⟨A, c, ⟨hk.old h1.head (by omega), own_chg h1.own hk (fun k cur hq e => ?_)⟩⟩, hx, hk.below h.bel h.bel.size (fun k e => by subst e; omega), hg⟩
  subst e
  exact heap_ne hq h2.head (by intro e; injection e with _ e; exact absurd e (by decide)) rfl
theorem mk_start {w w1 : World} (ht : TAt w1 w.heap.size w.heap.size none 0 []) (hb : Below w.heap.size w w1) : MK w (w1.alloc (.cells #[.slice none 0 0, .slice none 0 0, .slice none 0 0] 60)) w1.heap.size [] [] :=
  ⟨⟨_, _, ht.below (below_alloc (Below.refl _ _) _)⟩, ⟨none, none, none, 0, 0, 0, ⟨heap_alloc_new _ _, fun h => absurd h (by simp), fun h => absurd h (by simp), fun h => absurd h (by simp)⟩⟩, hb.trans ((below_alloc (Below.refl _ w1) _).mono hb.size), lt_heap ht.head⟩
set_option maxRecDepth 100000 in
set_option maxHeartbeats 4000000 in
theorem made_calls {w : World} {B : Nat} {P : Option Addr} {cs : Nat} {L : List Int} (hr : Reads w B 1 P L.length (L.map (Value.int .u8))) (hB : B ≤ w.heap.size) (hs : Steps L) (h30 : L.length ≤ 30) :
    Calls Try.prog 15 #[.slice P L.length cs, .int .u64 0, .int .u64 0] w fun e w' => ∃ b g, e = .returned (.tuple #[.pointer (some ⟨b, 0, none⟩), .pointer (some ⟨g, 0, none⟩)]) ∧ (∃ base A c, w.heap.size ≤ base ∧ w.heap.size ≤ b ∧ base ≤ w'.heap.size ∧ TAt w' base b A c (mkM L L.length)) ∧ (∃ An Am Ao cn cm co, XTab w' g An Am Ao cn cm co (mkM L L.length)) ∧ Below w.heap.size w w' := by
  have hr' := Lib.hid hr
  have hs' := Lib.hid hs
  clear hr hs
  have N := Lib.hid (new_calls w)
  go_enter Try.func15, Try.ntmps15
  go_upto_region 2 with (go_at_call 28; refine N.out.mono ?_; rintro e1 w1 ⟨rfl, ht1, hb1⟩; replace ht1 := Lib.hid ht1; replace hb1 := Lib.hid hb1)
  go_upto_region 3 with fail
  have M0 := Lib.hid (mk_start ht1.out hb1.out)
  clear N ht1 hb1
  generalize w1.heap.size = g at *
  go_wp2
  go_loopw [10, 11] (fun v10 v11 wr => ∃ i : Nat, v11 = .int .i64 i ∧ i ≤ L.length ∧ v10 = .int .i64 (mkS L i) ∧ Hid (MK w wr g (mkM L i) (mkM L i))) (fun _ v11 _ => L.length - (intOf v11).toNat)
  case atStart => exact ⟨0, rfl, Nat.zero_le _, rfl, M0⟩
  case round =>
    obtain ⟨i, rfl, hi, rfl, hm⟩ := hrel
    by_cases hlt : i < L.length
    · obtain ⟨ad, u, e1, e2, e3, e4⟩ := (hr'.out.below (hm.out.bel.mono hB)).at_ hlt
      rw [List.getElem?_map, List.getElem?_eq_getElem hlt] at e3
      injection e3 with e3
      subst e1 e3
      have ht := Lib.hid hm.out.t
      obtain ⟨A, c, h1⟩ := hm.out.t
      have hb := mkS_le hs'.out (i + 1) hlt
      have h30' : i < 30 := by omega
      have d1 : IntKind.i64.wrap ((i : Int) + 1) = (i : Int) + 1 := IntWalk.i64_in _ (by omega)
      have d2 : IntKind.u64.wrap ((i : Int) + 1) = (i : Int) + 1 := IntWalk.u64_in _ (by omega)
      have d3 : IntKind.i64.wrap (mkS L i + L[i]) = mkS L (i + 1) := by rw [← mkS_succ L hlt]; exact IntWalk.i64_in _ (by omega)
      have A1 := Lib.hid (add_calls h1 ((i : Int) + 1) (mkS L (i + 1)) (by rw [mkM_length]; omega) hm.out.bel.size)
      have yb := hs'.out L[i] (List.getElem_mem hlt)
      have d4 : wrap64 L[i] = L[i] := (i64_w _).symm.trans (IntWalk.i64_in _ (by omega))
      have d5 : wrap64 (mkS L i + L[i]) = mkS L (i + 1) := (i64_w _).symm.trans d3
      clear h1
      have q1 : decide ((i : Int) < 30) = true := decide_eq_true (by omega)
      have q2 : decide (i < 30) = true := decide_eq_true h30'
      have q3 : decide ((i : Int) < (L.length : Int)) = true := decide_eq_true (by omega)
      generalize L[i] = y at *
      go_upto_region 8 with (go_at_call 26; (with_reducible refine A1.out.mono ?_); rintro e5 w5 ⟨rfl, h5, t5⟩; rw [mk_add hs'.out hlt h30'] ; rw [mk_addM hs'.out hlt h30'] at h5; have M1 := Lib.hid (hm.out.add h5 t5); clear h5 t5 A1)
      obtain ⟨An, Am, Ao, cn, cm, co, hx⟩ := M1.out.x
      have A2 := Lib.hid (radd_ok hx ((i : Int) + 1) (mkS L (i + 1)) (by omega) (by omega) (by omega) (by omega) (by rw [mkM_length]; omega) (fun x hx => mkM_ahead hs'.out hlt hx))
      clear hx
      go_wp2_with (go_at_call 35; (with_reducible refine A2.out.mono ?_); rintro e6 w6 ⟨rfl, h6, t6⟩; rw [← mkM_succ] at h6; have M2 := Lib.hid (M1.out.radd h6 t6); clear h6 t6 A2)
      go_round
      case rel => exact ⟨i + 1, by go_num, by omega, rfl, M2⟩
      case measure => simp [intOf]; omega
    · obtain rfl : i = L.length := by omega
      have hx := Lib.hid hm.out
      go_wp2
      go_loop [12] (fun v12 => ∃ j : Nat, v12 = .int .i64 j ∧ j ≤ L.length) (fun v12 => L.length - (intOf v12).toNat)
      case atStart => exact ⟨0, rfl, Nat.zero_le _⟩
      case round =>
        obtain ⟨j, rfl, hj⟩ := hrel
        by_cases hlt2 : j < L.length
        · have q2 : decide (j < 30) = true := decide_eq_true (by omega)
          have q3 : decide ((j : Int) < 30) = true := decide_eq_true (by omega)
          have q4 : decide ((j : Int) < (L.length : Int)) = true := decide_eq_true (by omega)
          have d6 : IntKind.i64.wrap ((j : Int) + 1) = (j : Int) + 1 := IntWalk.i64_in _ (by omega)
          go_wp2
          exact ⟨⟨j + 1, by go_num, by omega⟩, by simp [intOf]; omega⟩
        · obtain rfl : j = L.length := by omega
          go_wp2
          go_ret2
          obtain ⟨A, c, h1⟩ := hm.out.t
          exact ⟨_, _, rfl, ⟨_, Nat.le_refl _, Nat.le_refl _, hm.out.bel.size, A, c, h1⟩, hm.out.x, hm.out.bel⟩
end Go.Proofs.Ytonlbeonblpblaa.All
