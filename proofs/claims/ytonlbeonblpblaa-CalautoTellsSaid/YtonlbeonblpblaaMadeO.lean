/-
  The tables that the laws make, some moments out and some dropped: both are the same rows, their numbers and minutes rise. No condition but that the steps lie as their row says.
-/
import Derived.Test.YtonlbeonblpblaaRDropD
import Derived.Test.YtonlbeonblpblaaTellsP
namespace Go.Proofs.Ytonlbeonblpblaa.All
open Go.RowKit Go.Proofs.YtonlbeonblpblaaW.PrintWords Go.Proofs.YtonlbeonblpblaaW.PrintLast Go.Proofs.YtonlbeonblpblaaW.PrintMore Go.Proofs.Ytonlbeonblpblaa.Wd
set_option linter.unusedVariables false
set_option linter.unusedSimpArgs false
private theorem ym (motive : Option Value → Sort _) (h1 : (b : Bool) → motive (some (.bool b))) (h2 : (x : Option Value) → motive x) : Go.yielded.match_1 motive (some undef) h1 h2 = h2 (some undef) := rfl
attribute [local go_sem, local simp] ym
/-- Minutes that do not fall. -/
def Mu (M : List It) : Prop := ∀ i j (hi : i < M.length) (hj : j < M.length), i < j → M[i].m ≤ M[j].m
/-- Both tables, of the same rows. -/
structure MO (w wr : World) (g : Nat) (N : List It) : Prop where
  t : ∃ A c, TAt wr w.heap.size w.heap.size A c N
  x : XT wr g N
  bel : Below w.heap.size w wr
  g1 : w.heap.size < g
  good : Good N
  mu : Mu N
theorem relM_mu {M : List It} (h : Mu M) (num : Int) : Mu (relM M num) := by
  unfold relM
  split
  · exact relAt_mu h _
  · exact h
theorem dropM_mu {M : List It} (h : Mu M) (num : Int) : Mu (dropM M num) := by
  unfold dropM
  split
  · exact erase_mu h _
  · exact h
theorem dropM_good {M : List It} (g : Good M) (num : Int) : Good (dropM M num) := by
  unfold dropM
  split
  · exact erase_good g _
  · exact g
/-- The program's table has been turned, the document's not yet. -/
structure MH (w wr : World) (g : Nat) (N N' : List It) : Prop where
  t : ∃ A c, TAt wr w.heap.size w.heap.size A c N'
  x : XT wr g N
  bel : Below w.heap.size w wr
  g1 : w.heap.size < g
theorem MO.tk {w wr w2 : World} {g : Nat} {N N' : List It} (h : MO w wr g N) (ht : ∃ A c, TAt w2 w.heap.size w.heap.size A c N') (hk : TK w.heap.size w.heap.size wr w2) : MH w w2 g N N' := by
  obtain ⟨A, c, h1⟩ := h.t
  obtain ⟨An, Am, Ao, cn, cm, co, h2, hc⟩ := h.x
  exact ⟨ht, ⟨_, _, _, _, _, _, h2.tk hk h1.head, hc⟩, hk.below h.bel (Nat.le_refl _) (Nat.le_refl _) h.bel.size, h.g1⟩
theorem MH.chg {w wr w2 : World} {g : Nat} {N N' : List It} (h : MH w wr g N N') (hx : XT w2 g N') (hk : Chg (· = g) wr w2) (gd : Good N') (mu : Mu N') : MO w w2 g N' := by
  obtain ⟨A, c, h1⟩ := h.t
  obtain ⟨An, Am, Ao, cn, cm, co, h2, _⟩ := h.x
  have hg := h.g1
  refine ⟨⟨A, c, ⟨hk.old h1.head (by omega), own_chg h1.own hk (fun k cur hq e => ?_)⟩⟩, hx, hk.below h.bel h.bel.size (fun k e => by subst e; omega), hg, gd, mu⟩
  subst e
  exact heap_ne hq h2.head (by intro e; injection e with _ e; exact absurd e (by decide)) rfl
theorem mo_start {w w1 : World} (ht : TAt w1 w.heap.size w.heap.size none 0 []) (hb : Below w.heap.size w w1) : MO w (w1.alloc (.cells #[.slice none 0 0, .slice none 0 0, .slice none 0 0] 60)) w1.heap.size [] :=
  ⟨⟨_, _, ht.below (below_alloc (Below.refl _ _) _)⟩, ⟨none, none, none, 0, 0, 0, ⟨heap_alloc_new _ _, fun h => absurd h (by simp), fun h => absurd h (by simp), fun h => absurd h (by simp)⟩, by decide⟩, hb.trans ((below_alloc (Below.refl _ w1) _).mono hb.size), lt_heap ht.head, ⟨fun i j hi => absurd hi (by simp), fun x hx => absurd hx (by simp), by decide⟩, fun i j hi => absurd hi (by simp)⟩
theorem mkM_mu {L : List Int} (hs : Steps L) {i : Nat} (h : i ≤ L.length) : Mu (mkM L i) := fun a b ha hb hab => by
  have e : ∀ (k : Nat) (hk : k < (mkM L i).length), ((mkM L i)[k]).m = mkS L (k + 1) := fun k hk => by simp [mkM]
  rw [e a ha, e b hb]
  rw [mkM_length] at hb
  exact mkS_mono hs _ _ (by omega) (by omega)
section
variable {w wr : World} {g : Nat} {N : List It}
theorem MO.rel1 (h : MO w wr g N) (num : Int) : Calls Try.prog 36 #[.pointer (some ⟨w.heap.size, 0, none⟩), .int .u64 num] wr fun e w' => e = .returned (.int .i64 (relC N num)) ∧ MH w w' g N (relM N num) := by
  obtain ⟨A, c, h1⟩ := h.t
  exact (rel_calls h.good h1 num).mono fun e w' ⟨he, hx, hk⟩ => ⟨he, h.tk hx hk⟩
theorem MO.drop1 (h : MO w wr g N) (num : Int) : Calls Try.prog 38 #[.pointer (some ⟨w.heap.size, 0, none⟩), .int .u64 num] wr fun e w' => e = .returned (.int .i64 (dropC N num)) ∧ MH w w' g N (dropM N num) := by
  obtain ⟨A, c, h1⟩ := h.t
  exact (drop_calls h.good h1 num).mono fun e w' ⟨he, hx, hk⟩ => ⟨he, h.tk hx hk⟩
theorem MH.rel2 {num : Int} (h : MH w wr g N (relM N num)) (gd : Good N) (mu : Mu N) : Calls Try.prog 37 #[.pointer (some ⟨g, 0, none⟩), .int .u64 num] wr fun e w' => e = .returned (.int .i64 (relC N num)) ∧ MO w w' g (relM N num) := by
  obtain ⟨An, Am, Ao, cn, cm, co, h2, hc⟩ := h.x
  exact (rrel_calls gd h2 hc num).mono fun e w' ⟨he, hx, hk⟩ => ⟨he, h.chg hx hk (relM_good gd num) (relM_mu mu num)⟩
theorem MH.drop2 {num : Int} (h : MH w wr g N (dropM N num)) (gd : Good N) (mu : Mu N) : Calls Try.prog 39 #[.pointer (some ⟨g, 0, none⟩), .int .u64 num] wr fun e w' => e = .returned (.int .i64 (dropC N num)) ∧ MO w w' g (dropM N num) := by
  obtain ⟨An, Am, Ao, cn, cm, co, h2, hc⟩ := h.x
  exact (rdrop_calls gd h2 hc num).mono fun e w' ⟨he, hx, hk⟩ => ⟨he, h.chg hx hk (dropM_good gd num) (dropM_mu mu num)⟩
end
set_option maxRecDepth 100000 in
set_option maxHeartbeats 4000000 in
theorem madeo_calls {w : World} {B : Nat} {P : Option Addr} {cs : Nat} {L : List Int} (hr : Reads w B 1 P L.length (L.map (Value.int .u8))) (hB : B ≤ w.heap.size) (hs : Steps L) (h30 : L.length ≤ 30) (out gone : Int) (ho : 0 ≤ out ∧ out < 18446744073709551616) (hg : 0 ≤ gone ∧ gone < 18446744073709551616) :
    Calls Try.prog 15 #[.slice P L.length cs, .int .u64 out, .int .u64 gone] w fun e w' => ∃ g N, e = .returned (.tuple #[.pointer (some ⟨w.heap.size, 0, none⟩), .pointer (some ⟨g, 0, none⟩)]) ∧ MO w w' g N := by
  have hr' := Lib.hid hr
  have hs' := Lib.hid hs
  clear hr hs
  have N := Lib.hid (new_calls w)
  go_enter Try.func15, Try.ntmps15
  go_upto_region 2 with (go_at_call 28; refine N.out.mono ?_; rintro e1 w1 ⟨rfl, ht1, hb1⟩; replace ht1 := Lib.hid ht1; replace hb1 := Lib.hid hb1)
  go_upto_region 3 with fail
  have M0 := Lib.hid (mo_start ht1.out hb1.out)
  clear N ht1 hb1
  generalize w1.heap.size = g at *
  go_wp2
  go_loopw [10, 11] (fun v10 v11 wr => ∃ i : Nat, v11 = .int .i64 i ∧ i ≤ L.length ∧ v10 = .int .i64 (mkS L i) ∧ Hid (MO w wr g (mkM L i))) (fun _ v11 _ => L.length - (intOf v11).toNat)
  case atStart => exact ⟨0, rfl, Nat.zero_le _, rfl, M0⟩
  case round =>
    obtain ⟨i, rfl, hi, rfl, hm⟩ := hrel
    by_cases hlt : i < L.length
    · obtain ⟨ad, u, e1, e2, e3, e4⟩ := (hr'.out.below (hm.out.bel.mono hB)).at_ hlt
      rw [List.getElem?_map, List.getElem?_eq_getElem hlt] at e3
      injection e3 with e3
      subst e1 e3
      have ht := Lib.hid hm.out.t
      obtain ⟨A, c, h1⟩ := hm.out.t
      have hb := mkS_le hs'.out (i + 1) hlt
      have h30' : i < 30 := by omega
      have d1 : IntKind.i64.wrap ((i : Int) + 1) = (i : Int) + 1 := IntWalk.i64_in _ (by omega)
      have d2 : IntKind.u64.wrap ((i : Int) + 1) = (i : Int) + 1 := IntWalk.u64_in _ (by omega)
      have d3 : IntKind.i64.wrap (mkS L i + L[i]) = mkS L (i + 1) := by rw [← mkS_succ L hlt]; exact IntWalk.i64_in _ (by omega)
      have A1 := Lib.hid (add_calls h1 ((i : Int) + 1) (mkS L (i + 1)) (by rw [mkM_length]; omega) hm.out.bel.size)
      have yb := hs'.out L[i] (List.getElem_mem hlt)
      have d4 : wrap64 L[i] = L[i] := (i64_w _).symm.trans (IntWalk.i64_in _ (by omega))
      have d5 : wrap64 (mkS L i + L[i]) = mkS L (i + 1) := (i64_w _).symm.trans d3
      clear h1
      have q1 : decide ((i : Int) < 30) = true := decide_eq_true (by omega)
      have q2 : decide (i < 30) = true := decide_eq_true h30'
      have q3 : decide ((i : Int) < (L.length : Int)) = true := decide_eq_true (by omega)
      generalize L[i] = y at *
      go_upto_region 8 with (go_at_call 26; (with_reducible refine A1.out.mono ?_); rintro e5 w5 ⟨rfl, h5, t5⟩; rw [mk_add hs'.out hlt h30'] ; rw [mk_addM hs'.out hlt h30'] at h5; have M1 := Lib.hid (hm.out.tk h5 t5); clear h5 t5 A1)
      obtain ⟨An, Am, Ao, cn, cm, co, hx, _⟩ := M1.out.x
      have A2 := Lib.hid (radd_okc hx ((i : Int) + 1) (mkS L (i + 1)) (by omega) (by omega) (by omega) (by omega) (by rw [mkM_length]; omega) (fun x hx => mkM_ahead hs'.out hlt hx))
      clear hx
      go_wp2_with (go_at_call 35; (with_reducible refine A2.out.mono ?_); rintro e6 w6 ⟨rfl, h6, t6⟩; rw [← mkM_succ] at h6; have M2 := Lib.hid (M1.out.chg h6 t6 (mkM_good hs'.out hlt (by omega)) (mkM_mu hs'.out hlt)); clear h6 t6 A2)
      go_round
      case rel => exact ⟨i + 1, by go_num, by omega, rfl, M2⟩
      case measure => simp [intOf]; omega
    · obtain rfl : i = L.length := by omega
      have hm2 := Lib.hid (show ∃ N, MO w wr g N from ⟨_, hm.out⟩)
      clear hm hlt
      go_wp2
      go_loopw [12] (fun v12 wr => ∃ j : Nat, v12 = .int .i64 j ∧ j ≤ L.length ∧ Hid (∃ N, MO w wr g N)) (fun v12 _ => L.length - (intOf v12).toNat)
      case atStart => exact ⟨0, rfl, Nat.zero_le _, hm2⟩
      case round =>
        clear hm2
        obtain ⟨j, rfl, hj, hm⟩ := hrel
        by_cases hlt2 : j < L.length
        · have q2 : decide (j < 30) = true := decide_eq_true (by omega)
          have q3 : decide ((j : Int) < 30) = true := decide_eq_true (by omega)
          have q4 : decide ((j : Int) < (L.length : Int)) = true := decide_eq_true (by omega)
          have d6 : IntKind.i64.wrap ((j : Int) + 1) = (j : Int) + 1 := IntWalk.i64_in _ (by omega)
          have d7 : IntKind.u64.wrap ((j : Int) + 1) = (j : Int) + 1 := IntWalk.u64_in _ (by omega)
          have hj1 := Lib.hid (show j + 1 ≤ L.length by omega)
          have hme : L.length - (j + 1) < L.length - j := by omega
          replace hme := Lib.hid hme
          obtain ⟨N, hN⟩ := hm.out
          have A1 := Lib.hid (hN.rel1 ((j : Int) + 1))
          have hgm := Lib.hid (And.intro hN.good hN.mu)
          replace hN := Lib.hid hN
          clear hm
          cases hb : ((out / 2 ^ j).tmod 2 == 1) with
          | false =>
            go_wp2
            go_roundw
            case rel => exact ⟨j + 1, by go_num, hj1.out, Lib.hid ⟨N, hN.out⟩⟩
            case measure => simp [intOf]; have := hme.out; omega
          | true =>
            cases hb2 : ((gone / 2 ^ j).tmod 2 == 1) with
            | false =>
              go_wp2_with (first
                | (go_at_call 36; (with_reducible refine A1.out.mono ?_); rintro e5 w5 ⟨rfl, h5⟩; have A2 := Lib.hid (h5.rel2 hgm.out.1 hgm.out.2); clear h5 A1)
                | (go_at_call 37; (with_reducible refine A2.out.mono ?_); rintro e6 w6 ⟨rfl, h6⟩; replace h6 := Lib.hid h6; clear A2))
              go_roundw
              case rel => exact ⟨j + 1, by go_num, hj1.out, Lib.hid ⟨_, h6.out⟩⟩
              case measure => simp [intOf]; have := hme.out; omega
            | true =>
              go_wp2_with (first
                | (go_at_call 36; (with_reducible refine A1.out.mono ?_); rintro e5 w5 ⟨rfl, h5⟩; have A2 := Lib.hid (h5.rel2 hgm.out.1 hgm.out.2); clear h5 A1)
                | (go_at_call 37; (with_reducible refine A2.out.mono ?_); rintro e6 w6 ⟨rfl, h6⟩; have A3 := Lib.hid (h6.drop1 ((j : Int) + 1)); have hgn := Lib.hid (And.intro h6.good h6.mu); clear h6 A2)
                | (go_at_call 38; (with_reducible refine A3.out.mono ?_); rintro e7 w7 ⟨rfl, h7⟩; have A4 := Lib.hid (h7.drop2 hgn.out.1 hgn.out.2); clear h7 A3)
                | (go_at_call 39; (with_reducible refine A4.out.mono ?_); rintro e8 w8 ⟨rfl, h8⟩; replace h8 := Lib.hid h8; clear A4))
              go_roundw
              case rel => exact ⟨j + 1, by go_num, hj1.out, Lib.hid ⟨_, h8.out⟩⟩
              case measure => simp [intOf]; have := hme.out; omega
        · obtain rfl : j = L.length := by omega
          obtain ⟨N, hN⟩ := hm.out
          replace hN := Lib.hid hN
          go_wp2
          go_ret2
          exact ⟨_, N, rfl, hN.out⟩
end Go.Proofs.Ytonlbeonblpblaa.All
