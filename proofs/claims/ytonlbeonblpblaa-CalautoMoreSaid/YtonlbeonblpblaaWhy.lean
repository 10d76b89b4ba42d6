/-
  Why two rules clash: the program's answer. No condition but that the rules lie as their row says.
-/
import Derived.Test.YtonlbeonblpblaaClashP
import Derived.Test.YtonlbeonblpblaaOrder
namespace Go.Proofs.Ytonlbeonblpblaa.All
open Go.RowKit Go.Proofs.YtonlbeonblpblaaW.PrintWords Go.Proofs.YtonlbeonblpblaaW.PrintLast Go.Proofs.YtonlbeonblpblaaW.PrintMore Go.Proofs.Ytonlbeonblpblaa.Wd
set_option linter.unusedVariables false
set_option linter.unusedSimpArgs false
private theorem ym (motive : Option Value → Sort _) (h1 : (b : Bool) → motive (some (.bool b))) (h2 : (x : Option Value) → motive x) : Go.yielded.match_1 motive (some undef) h1 h2 = h2 (some undef) := rfl
attribute [local go_sem, local simp] ym
theorem bo_below {w w2 : World} {q : Nat} {r : Ru} (h : Bo w q r) (hb : Below w.heap.size w w2) : Bo w2 q r := (hb.block _ (lt_heap h)).trans h
abbrev rua (r : Ru) : Value := .agg #[.int .i64 r.k, .int .i64 r.l, .int .i64 r.f]
set_option maxRecDepth 100000 in
theorem keepk_calls (r : Ru) (w : World) : Calls Try.prog 54 #[.agg #[.int .i64 r.k, .int .i64 r.l, .int .i64 r.f]] w fun e w' => e = .returned (.bool (kp r)) ∧ Below w.heap.size w w' := by
  have hb0 := Lib.hid (below_alloc (Below.refl w.heap.size w) (.cells #[.int .i64 r.k, .int .i64 r.l, .int .i64 r.f] 24))
  have HK := Lib.hid (show kp r = (r.k == 1 || (r.k == 2 && decide (r.l ≥ 1)) || (r.k == 3 && decide (r.l ≥ 0))) from rfl)
  generalize kp r = v at *
  by_cases h1 : r.k = 1
  · have q1 : (r.k == 1) = true := beq_iff_eq.2 h1
    clear h1
    go_enter Try.func54, Try.ntmps54
    go_wp2
    go_ret
    exact ⟨by rw [HK.out, q1]; rfl, hb0.out⟩
  · have q1 : (r.k == 1) = false := beq_eq_false_iff_ne.2 h1
    by_cases h2 : r.k = 2
    · have q2 : (r.k == 2) = true := beq_iff_eq.2 h2
      have q4 := Lib.hid (show (r.k == 3) = false from beq_eq_false_iff_ne.2 (by omega))
      clear h2
      go_enter Try.func54, Try.ntmps54
      go_wp2
      go_ret
      exact ⟨by rw [HK.out, q1, q2, q4.out]; simp, hb0.out⟩
    · have q2 : (r.k == 2) = false := beq_eq_false_iff_ne.2 h2
      by_cases h3 : r.k = 3
      · have q3 : (r.k == 3) = true := beq_iff_eq.2 h3
        clear h3
        go_enter Try.func54, Try.ntmps54
        go_wp2
        go_ret
        exact ⟨by rw [HK.out, q1, q2, q3]; simp, hb0.out⟩
      · have q3 : (r.k == 3) = false := beq_eq_false_iff_ne.2 h3
        go_enter Try.func54, Try.ntmps54
        go_wp2
        go_ret
        exact ⟨by rw [HK.out, q1, q2, q3]; simp, hb0.out⟩
/-- Two rules in boxes. -/
structure B2 (w wr : World) (p q : Nat) (a b : Ru) : Prop where
  p : Bo wr p a
  q : Bo wr q b
  bel : Below w.heap.size w wr
theorem B2.below {w wr w2 : World} {p q : Nat} {a b : Ru} (h : B2 w wr p q a b) (hb : Below wr.heap.size wr w2) : B2 w w2 p q a b := ⟨bo_below h.p hb, bo_below h.q hb, h.bel.trans (hb.mono h.bel.size)⟩
theorem b2_start (w : World) (a b : Ru) : B2 w ((w.alloc (.cells #[.int .i64 a.k, .int .i64 a.l, .int .i64 a.f] 24)).alloc (.cells #[.int .i64 b.k, .int .i64 b.l, .int .i64 b.f] 24)) w.heap.size (w.heap.size + 1) a b := by
  refine ⟨blk_alloc (heap_alloc_new w _) _, ?_, below_alloc (below_alloc (Below.refl _ _) _) _⟩
  have := heap_alloc_new (w.alloc (.cells #[.int .i64 a.k, .int .i64 a.l, .int .i64 a.f] 24)) (.cells #[.int .i64 b.k, .int .i64 b.l, .int .i64 b.f] 24)
  rwa [World.size_alloc] at this
set_option maxRecDepth 100000 in
set_option maxHeartbeats 4000000 in
theorem cov_calls (a b : Ru) (w : World) : Calls Try.prog 55 #[.agg #[.int .i64 a.k, .int .i64 a.l, .int .i64 a.f], .agg #[.int .i64 b.k, .int .i64 b.l, .int .i64 b.f]] w fun e w' => e = .returned (.bool (cov a b)) ∧ Below w.heap.size w w' := by
  have H0 := Lib.hid (b2_start w a b)
  have HK := Lib.hid (show cov a b = (kp a && kp b && decide (b.f ≤ a.f) && fit a b) from rfl)
  have KA := fun w => keepk_calls a w
  have KB := fun w => keepk_calls b w
  have hp := H0.out.p.cells
  have hq := H0.out.q.cells
  generalize cov a b = v at *
  cases ha : kp a with
  | false =>
    rw [ha] at KA
    rw [ha] at HK
    replace KA := Lib.hid KA
    clear ha
    go_enter Try.func55, Try.ntmps55
    go_wp2_with (go_at_call 54; (with_reducible refine (KA.out _).mono ?_); rintro e w1 ⟨rfl, hb1⟩; have H1 := Lib.hid (H0.out.below hb1); clear hb1)
    go_ret
    exact ⟨by rw [HK.out]; rfl, H1.out.bel⟩
  | true =>
    rw [ha] at KA
    rw [ha] at HK
    replace KA := Lib.hid KA
    cases hb : kp b with
    | false =>
      rw [hb] at KB HK
      replace KB := Lib.hid KB
      clear ha hb
      go_enter Try.func55, Try.ntmps55
      go_wp2_with (first
        | (go_at_call 54; (with_reducible refine (KA.out _).mono ?_); rintro e w1 ⟨rfl, hb1⟩; have H1 := Lib.hid (H0.out.below hb1); have hp1 := H1.out.p.cells; have hq1 := H1.out.q.cells; clear hb1 KA)
        | (go_at_call 54; (with_reducible refine (KB.out _).mono ?_); rintro e w2 ⟨rfl, hb2⟩; have H2 := Lib.hid (H1.out.below hb2); clear hb2))
      go_ret
      exact ⟨by rw [HK.out]; rfl, H2.out.bel⟩
    | true =>
      rw [hb] at KB HK
      replace KB := Lib.hid KB
      have HF := Lib.hid (show fit a b = (if a.k = 1 then true else if a.k = b.k then (if a.k = 2 then Int.tmod b.l a.l == 0 else decide (a.l ≤ b.l)) else false) from rfl)
      have hx : a.k = 2 → 1 ≤ a.l := fun h => by unfold kp at ha; simp [h] at ha; exact ha
      have hy : b.k = 2 → 1 ≤ b.l := fun h => by unfold kp at hb; simp [h] at hb; exact hb
      clear ha hb
      generalize fit a b = ft at *
      by_cases hf : b.f ≤ a.f
      · have q0 : decide (a.f < b.f) = false := decide_eq_false (by omega)
        have q0' : decide (b.f ≤ a.f) = true := decide_eq_true hf
        by_cases h1 : a.k = 1
        · have q1 : (a.k == 1) = true := beq_iff_eq.2 h1
          replace h1 := Lib.hid h1
          clear hx hy
          go_enter Try.func55, Try.ntmps55
          go_wp2_with (first
            | (go_at_call 54; (with_reducible refine (KA.out _).mono ?_); rintro e w1 ⟨rfl, hb1⟩; have H1 := Lib.hid (H0.out.below hb1); have hp1 := H1.out.p.cells; have hq1 := H1.out.q.cells; clear hb1 KA)
            | (go_at_call 54; (with_reducible refine (KB.out _).mono ?_); rintro e w2 ⟨rfl, hb2⟩; have H2 := Lib.hid (H1.out.below hb2); have hp2 := H2.out.p.cells; have hq2 := H2.out.q.cells; clear hb2))
          go_ret
          exact ⟨by rw [HK.out, HF.out, if_pos h1.out, q0']; rfl, H2.out.bel⟩
        · have q1 : (a.k == 1) = false := beq_eq_false_iff_ne.2 h1
          by_cases h2 : a.k = b.k
          · have q2 : (a.k == b.k) = true := beq_iff_eq.2 h2
            by_cases h3 : a.k = 2
            · have q3 : (a.k == 2) = true := beq_iff_eq.2 h3
              have hx1 := hx h3
              have hy1 := hy (by omega)
              have hz : (a.l == 0) = false := beq_eq_false_iff_ne.2 (by omega)
              have ht : Int.tmod b.l a.l = b.l % a.l := Int.tmod_eq_emod_of_nonneg (by omega)
              have hr0 := Int.emod_nonneg b.l (show a.l ≠ 0 by omega)
              have hr1 := Int.emod_lt_of_pos b.l (show 0 < a.l by omega)
              replace h3 := Lib.hid h3
              replace h2 := Lib.hid h2
              replace ht := Lib.hid ht
              clear hx hy
              go_enter Try.func55, Try.ntmps55
              go_upto_region 8 with (first
                | (go_at_call 54; (with_reducible refine (KA.out _).mono ?_); rintro e w1 ⟨rfl, hb1⟩; have H1 := Lib.hid (H0.out.below hb1); have hp1 := H1.out.p.cells; have hq1 := H1.out.q.cells; clear hb1 KA)
                | (go_at_call 54; (with_reducible refine (KB.out _).mono ?_); rintro e w2 ⟨rfl, hb2⟩; have H2 := Lib.hid (H1.out.below hb2); have hp2 := H2.out.p.cells; have hq2 := H2.out.q.cells; clear hb2))
              go_wp2
              go_ret
              exact ⟨by rw [HK.out, HF.out, if_neg h1, if_pos h2.out, if_pos h3.out, q0', ht.out]; rfl, H2.out.bel⟩
            · have q3 : (a.k == 2) = false := beq_eq_false_iff_ne.2 h3
              replace h2 := Lib.hid h2
              clear hx hy
              go_enter Try.func55, Try.ntmps55
              go_wp2_with (first
                | (go_at_call 54; (with_reducible refine (KA.out _).mono ?_); rintro e w1 ⟨rfl, hb1⟩; have H1 := Lib.hid (H0.out.below hb1); have hp1 := H1.out.p.cells; have hq1 := H1.out.q.cells; clear hb1 KA)
                | (go_at_call 54; (with_reducible refine (KB.out _).mono ?_); rintro e w2 ⟨rfl, hb2⟩; have H2 := Lib.hid (H1.out.below hb2); have hp2 := H2.out.p.cells; have hq2 := H2.out.q.cells; clear hb2))
              go_ret
              exact ⟨by rw [HK.out, HF.out, if_neg h1, if_pos h2.out, if_neg h3, q0']; rfl, H2.out.bel⟩
          · have q2 : (a.k == b.k) = false := beq_eq_false_iff_ne.2 h2
            clear hx hy
            go_enter Try.func55, Try.ntmps55
            go_wp2_with (first
              | (go_at_call 54; (with_reducible refine (KA.out _).mono ?_); rintro e w1 ⟨rfl, hb1⟩; have H1 := Lib.hid (H0.out.below hb1); have hp1 := H1.out.p.cells; have hq1 := H1.out.q.cells; clear hb1 KA)
              | (go_at_call 54; (with_reducible refine (KB.out _).mono ?_); rintro e w2 ⟨rfl, hb2⟩; have H2 := Lib.hid (H1.out.below hb2); have hp2 := H2.out.p.cells; have hq2 := H2.out.q.cells; clear hb2))
            go_ret
            exact ⟨by rw [HK.out, HF.out, if_neg h1, if_neg h2, q0']; rfl, H2.out.bel⟩
      · have q0 : decide (a.f < b.f) = true := decide_eq_true (by omega)
        have q0' : decide (b.f ≤ a.f) = false := decide_eq_false hf
        go_enter Try.func55, Try.ntmps55
        go_wp2_with (first
          | (go_at_call 54; (with_reducible refine (KA.out _).mono ?_); rintro e w1 ⟨rfl, hb1⟩; have H1 := Lib.hid (H0.out.below hb1); have hp1 := H1.out.p.cells; have hq1 := H1.out.q.cells; clear hb1 KA)
          | (go_at_call 54; (with_reducible refine (KB.out _).mono ?_); rintro e w2 ⟨rfl, hb2⟩; have H2 := Lib.hid (H1.out.below hb2); have hp2 := H2.out.p.cells; have hq2 := H2.out.q.cells; clear hb2))
        go_ret
        exact ⟨by rw [HK.out, q0']; rfl, H2.out.bel⟩
theorem b2_a (w : World) (a b : Ru) : B2 w (((w.alloc (.cells #[.int .i64 a.k, .int .i64 a.l, .int .i64 a.f] 24)).alloc (.cells #[.int .i64 b.k, .int .i64 b.l, .int .i64 b.f] 24)).drew) w.heap.size (w.heap.size + 1) a b := (b2_start w a b).below (below_drew (Below.refl _ _))
theorem B2.swap {w W : World} {p q : Nat} {a b : Ru} (h : B2 w W p q a b) : B2 w W q p b a := ⟨h.q, h.p, h.bel⟩
set_option maxRecDepth 100000 in
set_option maxHeartbeats 2000000 in
theorem why_l1 {L : Nat} {ad : Addr} {c0 i j : Nat} {a b : Ru} {w : World} (KK : ∀ w', Below w.heap.size w w' → (w'.cell? (ad.add (i * 3)) = some (.int .i64 a.k) ∧ w'.cell? { block := (ad.add (i * 3)).block, off := (ad.add (i * 3)).off + 1 } = some (.int .i64 a.l) ∧ w'.cell? { block := (ad.add (i * 3)).block, off := (ad.add (i * 3)).off + 2 } = some (.int .i64 a.f)) ∧ w'.cell? (ad.add (j * 3)) = some (.int .i64 b.k) ∧ w'.cell? { block := (ad.add (j * 3)).block, off := (ad.add (j * 3)).off + 1 } = some (.int .i64 b.l) ∧ w'.cell? { block := (ad.add (j * 3)).block, off := (ad.add (j * 3)).off + 2 } = some (.int .i64 b.f)) (hi : i < L) (hj : j < L) (hL : L ≤ 1000) (h_ka : kp a = true) (h_b4 : (b.k == 4) = true) (h_lt : decide (b.f < a.f) = true) :
    Calls Try.prog 45 #[.slice (some ad) L c0, .int .i64 i, .int .i64 j] w fun e w' => e = .returned (.int .i64 1) ∧ Below w.heap.size w w' := by
  have KA := fun w => keepk_calls a w
  rw [h_ka] at KA
  replace KA := Lib.hid KA
  clear h_ka
  have hi5 : (i : Int) < (L : Int) := by omega
  have hj5 : (j : Int) < (L : Int) := by omega
  have hcc := KK w (Below.refl _ _)
  replace KK := Lib.hid KK
  go_enter Try.func45, Try.ntmps45
  go_upto_region 1 with fail
  go_region_held3 (fun w' => (w'.cell? (ad.add (i * 3)) = some (.int .i64 a.k) ∧ w'.cell? { block := (ad.add (i * 3)).block, off := (ad.add (i * 3)).off + 1 } = some (.int .i64 a.l) ∧ w'.cell? { block := (ad.add (i * 3)).block, off := (ad.add (i * 3)).off + 2 } = some (.int .i64 a.f)) ∧ w'.cell? (ad.add (j * 3)) = some (.int .i64 b.k) ∧ w'.cell? { block := (ad.add (j * 3)).block, off := (ad.add (j * 3)).off + 1 } = some (.int .i64 b.l) ∧ w'.cell? { block := (ad.add (j * 3)).block, off := (ad.add (j * 3)).off + 2 } = some (.int .i64 b.f)) (first | exact hcc | exact KK.out _ (below_drew (below_alloc (Below.refl _ _) _)) | exact KK.out _ (below_drew (below_alloc (below_alloc (Below.refl _ _) _) _))) (fail)
  · have H0 := Lib.hid (b2_a w a b)
    obtain ⟨p, hp⟩ : ∃ p, w.heap.size = p := ⟨_, rfl⟩
    obtain ⟨q, hq⟩ : ∃ q, w.heap.size + 1 = q := ⟨_, rfl⟩
    rw [hq] at H0
    rw [hq]
    clear hq hp hcc KK
    have hp0 := H0.out.p.cells
    have hq0 := H0.out.q.cells
    generalize (World.drew _) = W at *
    go_wp2_with (first | (go_at_call 54; (with_reducible refine (KA.out _).mono ?_); rintro e w1 ⟨rfl, hb1⟩; replace H0 := Lib.hid (H0.out.below hb1); have hp1 := H0.out.p.cells; have hq1 := H0.out.q.cells; clear hb1))
    go_ret
    exact ⟨rfl, H0.out.bel⟩
  · have H0 := Lib.hid (b2_a w b a).swap
    obtain ⟨q, hq⟩ : ∃ q, w.heap.size + 1 = q := ⟨_, rfl⟩
    rw [hq] at H0
    rw [hq]
    clear hq hcc KK
    have hp0 := H0.out.p.cells
    have hq0 := H0.out.q.cells
    generalize (World.drew _) = W at *
    go_wp2_with (first | (go_at_call 54; (with_reducible refine (KA.out _).mono ?_); rintro e w1 ⟨rfl, hb1⟩; replace H0 := Lib.hid (H0.out.below hb1); have hp1 := H0.out.p.cells; have hq1 := H0.out.q.cells; clear hb1))
    go_ret
    exact ⟨rfl, H0.out.bel⟩
set_option maxRecDepth 100000 in
set_option maxHeartbeats 2000000 in
theorem why_l2 {L : Nat} {ad : Addr} {c0 i j : Nat} {a b : Ru} {w : World} (KK : ∀ w', Below w.heap.size w w' → (w'.cell? (ad.add (i * 3)) = some (.int .i64 a.k) ∧ w'.cell? { block := (ad.add (i * 3)).block, off := (ad.add (i * 3)).off + 1 } = some (.int .i64 a.l) ∧ w'.cell? { block := (ad.add (i * 3)).block, off := (ad.add (i * 3)).off + 2 } = some (.int .i64 a.f)) ∧ w'.cell? (ad.add (j * 3)) = some (.int .i64 b.k) ∧ w'.cell? { block := (ad.add (j * 3)).block, off := (ad.add (j * 3)).off + 1 } = some (.int .i64 b.l) ∧ w'.cell? { block := (ad.add (j * 3)).block, off := (ad.add (j * 3)).off + 2 } = some (.int .i64 b.f)) (hi : i < L) (hj : j < L) (hL : L ≤ 1000) (h_ka : kp a = false) (h_a4 : (a.k == 4) = true) (h_b4 : (b.k == 4) = true) (h_g : decide (j < i) = true) :
    Calls Try.prog 45 #[.slice (some ad) L c0, .int .i64 i, .int .i64 j] w fun e w' => e = .returned (.int .i64 2) ∧ Below w.heap.size w w' := by
  have KA := fun w => keepk_calls a w
  rw [h_ka] at KA
  replace KA := Lib.hid KA
  clear h_ka
  have hgi : decide ((j : Int) < (i : Int)) = true := by
    have : decide ((j : Int) < (i : Int)) = decide (j < i) := by congr 1; exact propext (by omega)
    rw [this, h_g]
  have hi5 : (i : Int) < (L : Int) := by omega
  have hj5 : (j : Int) < (L : Int) := by omega
  have hcc := KK w (Below.refl _ _)
  replace KK := Lib.hid KK
  go_enter Try.func45, Try.ntmps45
  go_upto_region 1 with fail
  go_region_held3 (fun w' => (w'.cell? (ad.add (i * 3)) = some (.int .i64 a.k) ∧ w'.cell? { block := (ad.add (i * 3)).block, off := (ad.add (i * 3)).off + 1 } = some (.int .i64 a.l) ∧ w'.cell? { block := (ad.add (i * 3)).block, off := (ad.add (i * 3)).off + 2 } = some (.int .i64 a.f)) ∧ w'.cell? (ad.add (j * 3)) = some (.int .i64 b.k) ∧ w'.cell? { block := (ad.add (j * 3)).block, off := (ad.add (j * 3)).off + 1 } = some (.int .i64 b.l) ∧ w'.cell? { block := (ad.add (j * 3)).block, off := (ad.add (j * 3)).off + 2 } = some (.int .i64 b.f)) (first | exact hcc | exact KK.out _ (below_drew (below_alloc (Below.refl _ _) _)) | exact KK.out _ (below_drew (below_alloc (below_alloc (Below.refl _ _) _) _))) (fail)
  · have H0 := Lib.hid (b2_a w a b)
    obtain ⟨p, hp⟩ : ∃ p, w.heap.size = p := ⟨_, rfl⟩
    obtain ⟨q, hq⟩ : ∃ q, w.heap.size + 1 = q := ⟨_, rfl⟩
    rw [hq] at H0
    rw [hq]
    clear hq hp hcc KK
    have hp0 := H0.out.p.cells
    have hq0 := H0.out.q.cells
    generalize (World.drew _) = W at *
    go_wp2_with (first | (go_at_call 54; (with_reducible refine (KA.out _).mono ?_); rintro e w1 ⟨rfl, hb1⟩; replace H0 := Lib.hid (H0.out.below hb1); have hp1 := H0.out.p.cells; have hq1 := H0.out.q.cells; clear hb1))
    go_ret
    exact ⟨rfl, H0.out.bel⟩
  · have H0 := Lib.hid (b2_a w b a).swap
    obtain ⟨q, hq⟩ : ∃ q, w.heap.size + 1 = q := ⟨_, rfl⟩
    rw [hq] at H0
    rw [hq]
    clear hq hcc KK
    have hp0 := H0.out.p.cells
    have hq0 := H0.out.q.cells
    generalize (World.drew _) = W at *
    go_wp2_with (first | (go_at_call 54; (with_reducible refine (KA.out _).mono ?_); rintro e w1 ⟨rfl, hb1⟩; replace H0 := Lib.hid (H0.out.below hb1); have hp1 := H0.out.p.cells; have hq1 := H0.out.q.cells; clear hb1))
    go_ret
    exact ⟨rfl, H0.out.bel⟩
set_option maxRecDepth 100000 in
set_option maxHeartbeats 2000000 in
theorem why_l3 {L : Nat} {ad : Addr} {c0 i j : Nat} {a b : Ru} {w : World} (KK : ∀ w', Below w.heap.size w w' → (w'.cell? (ad.add (i * 3)) = some (.int .i64 a.k) ∧ w'.cell? { block := (ad.add (i * 3)).block, off := (ad.add (i * 3)).off + 1 } = some (.int .i64 a.l) ∧ w'.cell? { block := (ad.add (i * 3)).block, off := (ad.add (i * 3)).off + 2 } = some (.int .i64 a.f)) ∧ w'.cell? (ad.add (j * 3)) = some (.int .i64 b.k) ∧ w'.cell? { block := (ad.add (j * 3)).block, off := (ad.add (j * 3)).off + 1 } = some (.int .i64 b.l) ∧ w'.cell? { block := (ad.add (j * 3)).block, off := (ad.add (j * 3)).off + 2 } = some (.int .i64 b.f)) (hi : i < L) (hj : j < L) (hL : L ≤ 1000) (h_ka : kp a = false) (h_a4 : (a.k == 4) = true) (h_b4 : (b.k == 4) = true) (h_g : decide (j < i) = false) (h_cb : cov b a = false) :
    Calls Try.prog 45 #[.slice (some ad) L c0, .int .i64 i, .int .i64 j] w fun e w' => e = .returned (.int .i64 0) ∧ Below w.heap.size w w' := by
  have KA := fun w => keepk_calls a w
  rw [h_ka] at KA
  replace KA := Lib.hid KA
  clear h_ka
  have CB := fun w => cov_calls b a w
  rw [h_cb] at CB
  replace CB := Lib.hid CB
  clear h_cb
  have hgi : decide ((j : Int) < (i : Int)) = false := by
    have : decide ((j : Int) < (i : Int)) = decide (j < i) := by congr 1; exact propext (by omega)
    rw [this, h_g]
  have hi5 : (i : Int) < (L : Int) := by omega
  have hj5 : (j : Int) < (L : Int) := by omega
  have hcc := KK w (Below.refl _ _)
  replace KK := Lib.hid KK
  go_enter Try.func45, Try.ntmps45
  go_upto_region 1 with fail
  go_region_held3 (fun w' => (w'.cell? (ad.add (i * 3)) = some (.int .i64 a.k) ∧ w'.cell? { block := (ad.add (i * 3)).block, off := (ad.add (i * 3)).off + 1 } = some (.int .i64 a.l) ∧ w'.cell? { block := (ad.add (i * 3)).block, off := (ad.add (i * 3)).off + 2 } = some (.int .i64 a.f)) ∧ w'.cell? (ad.add (j * 3)) = some (.int .i64 b.k) ∧ w'.cell? { block := (ad.add (j * 3)).block, off := (ad.add (j * 3)).off + 1 } = some (.int .i64 b.l) ∧ w'.cell? { block := (ad.add (j * 3)).block, off := (ad.add (j * 3)).off + 2 } = some (.int .i64 b.f)) (first | exact hcc | exact KK.out _ (below_drew (below_alloc (Below.refl _ _) _)) | exact KK.out _ (below_drew (below_alloc (below_alloc (Below.refl _ _) _) _))) (fail)
  · have H0 := Lib.hid (b2_a w a b)
    obtain ⟨p, hp⟩ : ∃ p, w.heap.size = p := ⟨_, rfl⟩
    obtain ⟨q, hq⟩ : ∃ q, w.heap.size + 1 = q := ⟨_, rfl⟩
    rw [hq] at H0
    rw [hq]
    clear hq hp hcc KK
    have hp0 := H0.out.p.cells
    have hq0 := H0.out.q.cells
    generalize (World.drew _) = W at *
    go_wp2_with (first | (go_at_call 54; (with_reducible refine (KA.out _).mono ?_); rintro e w1 ⟨rfl, hb1⟩; replace H0 := Lib.hid (H0.out.below hb1); have hp1 := H0.out.p.cells; have hq1 := H0.out.q.cells; clear hb1) | (go_at_call 55; (with_reducible refine (CB.out _).mono ?_); rintro e w2 ⟨rfl, hb2⟩; replace H0 := Lib.hid (H0.out.below hb2); have hp2 := H0.out.p.cells; have hq2 := H0.out.q.cells; clear hb2 CB))
    go_ret
    exact ⟨rfl, H0.out.bel⟩
  · have H0 := Lib.hid (b2_a w b a).swap
    obtain ⟨q, hq⟩ : ∃ q, w.heap.size + 1 = q := ⟨_, rfl⟩
    rw [hq] at H0
    rw [hq]
    clear hq hcc KK
    have hp0 := H0.out.p.cells
    have hq0 := H0.out.q.cells
    generalize (World.drew _) = W at *
    go_wp2_with (first | (go_at_call 54; (with_reducible refine (KA.out _).mono ?_); rintro e w1 ⟨rfl, hb1⟩; replace H0 := Lib.hid (H0.out.below hb1); have hp1 := H0.out.p.cells; have hq1 := H0.out.q.cells; clear hb1) | (go_at_call 55; (with_reducible refine (CB.out _).mono ?_); rintro e w2 ⟨rfl, hb2⟩; replace H0 := Lib.hid (H0.out.below hb2); have hp2 := H0.out.p.cells; have hq2 := H0.out.q.cells; clear hb2 CB))
    go_ret
    exact ⟨rfl, H0.out.bel⟩
set_option maxRecDepth 100000 in
set_option maxHeartbeats 2000000 in
theorem why_l4 {L : Nat} {ad : Addr} {c0 i j : Nat} {a b : Ru} {w : World} (KK : ∀ w', Below w.heap.size w w' → (w'.cell? (ad.add (i * 3)) = some (.int .i64 a.k) ∧ w'.cell? { block := (ad.add (i * 3)).block, off := (ad.add (i * 3)).off + 1 } = some (.int .i64 a.l) ∧ w'.cell? { block := (ad.add (i * 3)).block, off := (ad.add (i * 3)).off + 2 } = some (.int .i64 a.f)) ∧ w'.cell? (ad.add (j * 3)) = some (.int .i64 b.k) ∧ w'.cell? { block := (ad.add (j * 3)).block, off := (ad.add (j * 3)).off + 1 } = some (.int .i64 b.l) ∧ w'.cell? { block := (ad.add (j * 3)).block, off := (ad.add (j * 3)).off + 2 } = some (.int .i64 b.f)) (hi : i < L) (hj : j < L) (hL : L ≤ 1000) (h_ka : kp a = false) (h_a4 : (a.k == 4) = true) (h_b4 : (b.k == 4) = false) (h_cb : cov b a = false) :
    Calls Try.prog 45 #[.slice (some ad) L c0, .int .i64 i, .int .i64 j] w fun e w' => e = .returned (.int .i64 0) ∧ Below w.heap.size w w' := by
  have KA := fun w => keepk_calls a w
  rw [h_ka] at KA
  replace KA := Lib.hid KA
  clear h_ka
  have CB := fun w => cov_calls b a w
  rw [h_cb] at CB
  replace CB := Lib.hid CB
  clear h_cb
  have hi5 : (i : Int) < (L : Int) := by omega
  have hj5 : (j : Int) < (L : Int) := by omega
  have hcc := KK w (Below.refl _ _)
  replace KK := Lib.hid KK
  go_enter Try.func45, Try.ntmps45
  go_upto_region 1 with fail
  go_region_held3 (fun w' => (w'.cell? (ad.add (i * 3)) = some (.int .i64 a.k) ∧ w'.cell? { block := (ad.add (i * 3)).block, off := (ad.add (i * 3)).off + 1 } = some (.int .i64 a.l) ∧ w'.cell? { block := (ad.add (i * 3)).block, off := (ad.add (i * 3)).off + 2 } = some (.int .i64 a.f)) ∧ w'.cell? (ad.add (j * 3)) = some (.int .i64 b.k) ∧ w'.cell? { block := (ad.add (j * 3)).block, off := (ad.add (j * 3)).off + 1 } = some (.int .i64 b.l) ∧ w'.cell? { block := (ad.add (j * 3)).block, off := (ad.add (j * 3)).off + 2 } = some (.int .i64 b.f)) (first | exact hcc | exact KK.out _ (below_drew (below_alloc (Below.refl _ _) _)) | exact KK.out _ (below_drew (below_alloc (below_alloc (Below.refl _ _) _) _))) (fail)
  · have H0 := Lib.hid (b2_a w a b)
    obtain ⟨p, hp⟩ : ∃ p, w.heap.size = p := ⟨_, rfl⟩
    obtain ⟨q, hq⟩ : ∃ q, w.heap.size + 1 = q := ⟨_, rfl⟩
    rw [hq] at H0
    rw [hq]
    clear hq hp hcc KK
    have hp0 := H0.out.p.cells
    have hq0 := H0.out.q.cells
    generalize (World.drew _) = W at *
    go_wp2_with (first | (go_at_call 54; (with_reducible refine (KA.out _).mono ?_); rintro e w1 ⟨rfl, hb1⟩; replace H0 := Lib.hid (H0.out.below hb1); have hp1 := H0.out.p.cells; have hq1 := H0.out.q.cells; clear hb1) | (go_at_call 55; (with_reducible refine (CB.out _).mono ?_); rintro e w2 ⟨rfl, hb2⟩; replace H0 := Lib.hid (H0.out.below hb2); have hp2 := H0.out.p.cells; have hq2 := H0.out.q.cells; clear hb2 CB))
    go_ret
    exact ⟨rfl, H0.out.bel⟩
  · have H0 := Lib.hid (b2_a w b a).swap
    obtain ⟨q, hq⟩ : ∃ q, w.heap.size + 1 = q := ⟨_, rfl⟩
    rw [hq] at H0
    rw [hq]
    clear hq hcc KK
    have hp0 := H0.out.p.cells
    have hq0 := H0.out.q.cells
    generalize (World.drew _) = W at *
    go_wp2_with (first | (go_at_call 54; (with_reducible refine (KA.out _).mono ?_); rintro e w1 ⟨rfl, hb1⟩; replace H0 := Lib.hid (H0.out.below hb1); have hp1 := H0.out.p.cells; have hq1 := H0.out.q.cells; clear hb1) | (go_at_call 55; (with_reducible refine (CB.out _).mono ?_); rintro e w2 ⟨rfl, hb2⟩; replace H0 := Lib.hid (H0.out.below hb2); have hp2 := H0.out.p.cells; have hq2 := H0.out.q.cells; clear hb2 CB))
    go_ret
    exact ⟨rfl, H0.out.bel⟩
set_option maxRecDepth 100000 in
set_option maxHeartbeats 2000000 in
theorem why_l5 {L : Nat} {ad : Addr} {c0 i j : Nat} {a b : Ru} {w : World} (KK : ∀ w', Below w.heap.size w w' → (w'.cell? (ad.add (i * 3)) = some (.int .i64 a.k) ∧ w'.cell? { block := (ad.add (i * 3)).block, off := (ad.add (i * 3)).off + 1 } = some (.int .i64 a.l) ∧ w'.cell? { block := (ad.add (i * 3)).block, off := (ad.add (i * 3)).off + 2 } = some (.int .i64 a.f)) ∧ w'.cell? (ad.add (j * 3)) = some (.int .i64 b.k) ∧ w'.cell? { block := (ad.add (j * 3)).block, off := (ad.add (j * 3)).off + 1 } = some (.int .i64 b.l) ∧ w'.cell? { block := (ad.add (j * 3)).block, off := (ad.add (j * 3)).off + 2 } = some (.int .i64 b.f)) (hi : i < L) (hj : j < L) (hL : L ≤ 1000) (h_ka : kp a = false) (h_a4 : (a.k == 4) = false) (h_cb : cov b a = false) :
    Calls Try.prog 45 #[.slice (some ad) L c0, .int .i64 i, .int .i64 j] w fun e w' => e = .returned (.int .i64 0) ∧ Below w.heap.size w w' := by
  have KA := fun w => keepk_calls a w
  rw [h_ka] at KA
  replace KA := Lib.hid KA
  clear h_ka
  have CB := fun w => cov_calls b a w
  rw [h_cb] at CB
  replace CB := Lib.hid CB
  clear h_cb
  have hi5 : (i : Int) < (L : Int) := by omega
  have hj5 : (j : Int) < (L : Int) := by omega
  have hcc := KK w (Below.refl _ _)
  replace KK := Lib.hid KK
  go_enter Try.func45, Try.ntmps45
  go_upto_region 1 with fail
  go_region_held3 (fun w' => (w'.cell? (ad.add (i * 3)) = some (.int .i64 a.k) ∧ w'.cell? { block := (ad.add (i * 3)).block, off := (ad.add (i * 3)).off + 1 } = some (.int .i64 a.l) ∧ w'.cell? { block := (ad.add (i * 3)).block, off := (ad.add (i * 3)).off + 2 } = some (.int .i64 a.f)) ∧ w'.cell? (ad.add (j * 3)) = some (.int .i64 b.k) ∧ w'.cell? { block := (ad.add (j * 3)).block, off := (ad.add (j * 3)).off + 1 } = some (.int .i64 b.l) ∧ w'.cell? { block := (ad.add (j * 3)).block, off := (ad.add (j * 3)).off + 2 } = some (.int .i64 b.f)) (first | exact hcc | exact KK.out _ (below_drew (below_alloc (Below.refl _ _) _)) | exact KK.out _ (below_drew (below_alloc (below_alloc (Below.refl _ _) _) _))) (fail)
  · have H0 := Lib.hid (b2_a w a b)
    obtain ⟨p, hp⟩ : ∃ p, w.heap.size = p := ⟨_, rfl⟩
    obtain ⟨q, hq⟩ : ∃ q, w.heap.size + 1 = q := ⟨_, rfl⟩
    rw [hq] at H0
    rw [hq]
    clear hq hp hcc KK
    have hp0 := H0.out.p.cells
    have hq0 := H0.out.q.cells
    generalize (World.drew _) = W at *
    go_wp2_with (first | (go_at_call 54; (with_reducible refine (KA.out _).mono ?_); rintro e w1 ⟨rfl, hb1⟩; replace H0 := Lib.hid (H0.out.below hb1); have hp1 := H0.out.p.cells; have hq1 := H0.out.q.cells; clear hb1) | (go_at_call 55; (with_reducible refine (CB.out _).mono ?_); rintro e w2 ⟨rfl, hb2⟩; replace H0 := Lib.hid (H0.out.below hb2); have hp2 := H0.out.p.cells; have hq2 := H0.out.q.cells; clear hb2 CB))
    go_ret
    exact ⟨rfl, H0.out.bel⟩
  · have H0 := Lib.hid (b2_a w b a).swap
    obtain ⟨q, hq⟩ : ∃ q, w.heap.size + 1 = q := ⟨_, rfl⟩
    rw [hq] at H0
    rw [hq]
    clear hq hcc KK
    have hp0 := H0.out.p.cells
    have hq0 := H0.out.q.cells
    generalize (World.drew _) = W at *
    go_wp2_with (first | (go_at_call 54; (with_reducible refine (KA.out _).mono ?_); rintro e w1 ⟨rfl, hb1⟩; replace H0 := Lib.hid (H0.out.below hb1); have hp1 := H0.out.p.cells; have hq1 := H0.out.q.cells; clear hb1) | (go_at_call 55; (with_reducible refine (CB.out _).mono ?_); rintro e w2 ⟨rfl, hb2⟩; replace H0 := Lib.hid (H0.out.below hb2); have hp2 := H0.out.p.cells; have hq2 := H0.out.q.cells; clear hb2 CB))
    go_ret
    exact ⟨rfl, H0.out.bel⟩
set_option maxRecDepth 100000 in
set_option maxHeartbeats 2000000 in
theorem why_l6 {L : Nat} {ad : Addr} {c0 i j : Nat} {a b : Ru} {w : World} (KK : ∀ w', Below w.heap.size w w' → (w'.cell? (ad.add (i * 3)) = some (.int .i64 a.k) ∧ w'.cell? { block := (ad.add (i * 3)).block, off := (ad.add (i * 3)).off + 1 } = some (.int .i64 a.l) ∧ w'.cell? { block := (ad.add (i * 3)).block, off := (ad.add (i * 3)).off + 2 } = some (.int .i64 a.f)) ∧ w'.cell? (ad.add (j * 3)) = some (.int .i64 b.k) ∧ w'.cell? { block := (ad.add (j * 3)).block, off := (ad.add (j * 3)).off + 1 } = some (.int .i64 b.l) ∧ w'.cell? { block := (ad.add (j * 3)).block, off := (ad.add (j * 3)).off + 2 } = some (.int .i64 b.f)) (hi : i < L) (hj : j < L) (hL : L ≤ 1000) (h_ka : kp a = true) (h_b4 : (b.k == 4) = true) (h_lt : decide (b.f < a.f) = false) (h_a4 : (a.k == 4) = false) (h_cb : cov b a = false) :
    Calls Try.prog 45 #[.slice (some ad) L c0, .int .i64 i, .int .i64 j] w fun e w' => e = .returned (.int .i64 0) ∧ Below w.heap.size w w' := by
  have KA := fun w => keepk_calls a w
  rw [h_ka] at KA
  replace KA := Lib.hid KA
  clear h_ka
  have CB := fun w => cov_calls b a w
  rw [h_cb] at CB
  replace CB := Lib.hid CB
  clear h_cb
  have hi5 : (i : Int) < (L : Int) := by omega
  have hj5 : (j : Int) < (L : Int) := by omega
  have hcc := KK w (Below.refl _ _)
  replace KK := Lib.hid KK
  go_enter Try.func45, Try.ntmps45
  go_upto_region 1 with fail
  go_region_held3 (fun w' => (w'.cell? (ad.add (i * 3)) = some (.int .i64 a.k) ∧ w'.cell? { block := (ad.add (i * 3)).block, off := (ad.add (i * 3)).off + 1 } = some (.int .i64 a.l) ∧ w'.cell? { block := (ad.add (i * 3)).block, off := (ad.add (i * 3)).off + 2 } = some (.int .i64 a.f)) ∧ w'.cell? (ad.add (j * 3)) = some (.int .i64 b.k) ∧ w'.cell? { block := (ad.add (j * 3)).block, off := (ad.add (j * 3)).off + 1 } = some (.int .i64 b.l) ∧ w'.cell? { block := (ad.add (j * 3)).block, off := (ad.add (j * 3)).off + 2 } = some (.int .i64 b.f)) (first | exact hcc | exact KK.out _ (below_drew (below_alloc (Below.refl _ _) _)) | exact KK.out _ (below_drew (below_alloc (below_alloc (Below.refl _ _) _) _))) (fail)
  · have H0 := Lib.hid (b2_a w a b)
    obtain ⟨p, hp⟩ : ∃ p, w.heap.size = p := ⟨_, rfl⟩
    obtain ⟨q, hq⟩ : ∃ q, w.heap.size + 1 = q := ⟨_, rfl⟩
    rw [hq] at H0
    rw [hq]
    clear hq hp hcc KK
    have hp0 := H0.out.p.cells
    have hq0 := H0.out.q.cells
    generalize (World.drew _) = W at *
    go_wp2_with (first | (go_at_call 54; (with_reducible refine (KA.out _).mono ?_); rintro e w1 ⟨rfl, hb1⟩; replace H0 := Lib.hid (H0.out.below hb1); have hp1 := H0.out.p.cells; have hq1 := H0.out.q.cells; clear hb1) | (go_at_call 55; (with_reducible refine (CB.out _).mono ?_); rintro e w2 ⟨rfl, hb2⟩; replace H0 := Lib.hid (H0.out.below hb2); have hp2 := H0.out.p.cells; have hq2 := H0.out.q.cells; clear hb2 CB))
    go_ret
    exact ⟨rfl, H0.out.bel⟩
  · have H0 := Lib.hid (b2_a w b a).swap
    obtain ⟨q, hq⟩ : ∃ q, w.heap.size + 1 = q := ⟨_, rfl⟩
    rw [hq] at H0
    rw [hq]
    clear hq hcc KK
    have hp0 := H0.out.p.cells
    have hq0 := H0.out.q.cells
    generalize (World.drew _) = W at *
    go_wp2_with (first | (go_at_call 54; (with_reducible refine (KA.out _).mono ?_); rintro e w1 ⟨rfl, hb1⟩; replace H0 := Lib.hid (H0.out.below hb1); have hp1 := H0.out.p.cells; have hq1 := H0.out.q.cells; clear hb1) | (go_at_call 55; (with_reducible refine (CB.out _).mono ?_); rintro e w2 ⟨rfl, hb2⟩; replace H0 := Lib.hid (H0.out.below hb2); have hp2 := H0.out.p.cells; have hq2 := H0.out.q.cells; clear hb2 CB))
    go_ret
    exact ⟨rfl, H0.out.bel⟩
set_option maxRecDepth 100000 in
set_option maxHeartbeats 2000000 in
theorem why_l7 {L : Nat} {ad : Addr} {c0 i j : Nat} {a b : Ru} {w : World} (KK : ∀ w', Below w.heap.size w w' → (w'.cell? (ad.add (i * 3)) = some (.int .i64 a.k) ∧ w'.cell? { block := (ad.add (i * 3)).block, off := (ad.add (i * 3)).off + 1 } = some (.int .i64 a.l) ∧ w'.cell? { block := (ad.add (i * 3)).block, off := (ad.add (i * 3)).off + 2 } = some (.int .i64 a.f)) ∧ w'.cell? (ad.add (j * 3)) = some (.int .i64 b.k) ∧ w'.cell? { block := (ad.add (j * 3)).block, off := (ad.add (j * 3)).off + 1 } = some (.int .i64 b.l) ∧ w'.cell? { block := (ad.add (j * 3)).block, off := (ad.add (j * 3)).off + 2 } = some (.int .i64 b.f)) (hi : i < L) (hj : j < L) (hL : L ≤ 1000) (h_ka : kp a = true) (h_b4 : (b.k == 4) = false) (h_a4 : (a.k == 4) = false) (h_cb : cov b a = false) :
    Calls Try.prog 45 #[.slice (some ad) L c0, .int .i64 i, .int .i64 j] w fun e w' => e = .returned (.int .i64 0) ∧ Below w.heap.size w w' := by
  have KA := fun w => keepk_calls a w
  rw [h_ka] at KA
  replace KA := Lib.hid KA
  clear h_ka
  have CB := fun w => cov_calls b a w
  rw [h_cb] at CB
  replace CB := Lib.hid CB
  clear h_cb
  have hi5 : (i : Int) < (L : Int) := by omega
  have hj5 : (j : Int) < (L : Int) := by omega
  have hcc := KK w (Below.refl _ _)
  replace KK := Lib.hid KK
  go_enter Try.func45, Try.ntmps45
  go_upto_region 1 with fail
  go_region_held3 (fun w' => (w'.cell? (ad.add (i * 3)) = some (.int .i64 a.k) ∧ w'.cell? { block := (ad.add (i * 3)).block, off := (ad.add (i * 3)).off + 1 } = some (.int .i64 a.l) ∧ w'.cell? { block := (ad.add (i * 3)).block, off := (ad.add (i * 3)).off + 2 } = some (.int .i64 a.f)) ∧ w'.cell? (ad.add (j * 3)) = some (.int .i64 b.k) ∧ w'.cell? { block := (ad.add (j * 3)).block, off := (ad.add (j * 3)).off + 1 } = some (.int .i64 b.l) ∧ w'.cell? { block := (ad.add (j * 3)).block, off := (ad.add (j * 3)).off + 2 } = some (.int .i64 b.f)) (first | exact hcc | exact KK.out _ (below_drew (below_alloc (Below.refl _ _) _)) | exact KK.out _ (below_drew (below_alloc (below_alloc (Below.refl _ _) _) _))) (fail)
  · have H0 := Lib.hid (b2_a w a b)
    obtain ⟨p, hp⟩ : ∃ p, w.heap.size = p := ⟨_, rfl⟩
    obtain ⟨q, hq⟩ : ∃ q, w.heap.size + 1 = q := ⟨_, rfl⟩
    rw [hq] at H0
    rw [hq]
    clear hq hp hcc KK
    have hp0 := H0.out.p.cells
    have hq0 := H0.out.q.cells
    generalize (World.drew _) = W at *
    go_wp2_with (first | (go_at_call 54; (with_reducible refine (KA.out _).mono ?_); rintro e w1 ⟨rfl, hb1⟩; replace H0 := Lib.hid (H0.out.below hb1); have hp1 := H0.out.p.cells; have hq1 := H0.out.q.cells; clear hb1) | (go_at_call 55; (with_reducible refine (CB.out _).mono ?_); rintro e w2 ⟨rfl, hb2⟩; replace H0 := Lib.hid (H0.out.below hb2); have hp2 := H0.out.p.cells; have hq2 := H0.out.q.cells; clear hb2 CB))
    go_ret
    exact ⟨rfl, H0.out.bel⟩
  · have H0 := Lib.hid (b2_a w b a).swap
    obtain ⟨q, hq⟩ : ∃ q, w.heap.size + 1 = q := ⟨_, rfl⟩
    rw [hq] at H0
    rw [hq]
    clear hq hcc KK
    have hp0 := H0.out.p.cells
    have hq0 := H0.out.q.cells
    generalize (World.drew _) = W at *
    go_wp2_with (first | (go_at_call 54; (with_reducible refine (KA.out _).mono ?_); rintro e w1 ⟨rfl, hb1⟩; replace H0 := Lib.hid (H0.out.below hb1); have hp1 := H0.out.p.cells; have hq1 := H0.out.q.cells; clear hb1) | (go_at_call 55; (with_reducible refine (CB.out _).mono ?_); rintro e w2 ⟨rfl, hb2⟩; replace H0 := Lib.hid (H0.out.below hb2); have hp2 := H0.out.p.cells; have hq2 := H0.out.q.cells; clear hb2 CB))
    go_ret
    exact ⟨rfl, H0.out.bel⟩
set_option maxRecDepth 100000 in
set_option maxHeartbeats 2000000 in
theorem why_l8 {L : Nat} {ad : Addr} {c0 i j : Nat} {a b : Ru} {w : World} (KK : ∀ w', Below w.heap.size w w' → (w'.cell? (ad.add (i * 3)) = some (.int .i64 a.k) ∧ w'.cell? { block := (ad.add (i * 3)).block, off := (ad.add (i * 3)).off + 1 } = some (.int .i64 a.l) ∧ w'.cell? { block := (ad.add (i * 3)).block, off := (ad.add (i * 3)).off + 2 } = some (.int .i64 a.f)) ∧ w'.cell? (ad.add (j * 3)) = some (.int .i64 b.k) ∧ w'.cell? { block := (ad.add (j * 3)).block, off := (ad.add (j * 3)).off + 1 } = some (.int .i64 b.l) ∧ w'.cell? { block := (ad.add (j * 3)).block, off := (ad.add (j * 3)).off + 2 } = some (.int .i64 b.f)) (hi : i < L) (hj : j < L) (hL : L ≤ 1000) (h_ka : kp a = true) (h_b4 : (b.k == 4) = false) (h_a4 : (a.k == 4) = false) (h_cb : cov b a = true) (h_ca : cov a b = false) :
    Calls Try.prog 45 #[.slice (some ad) L c0, .int .i64 i, .int .i64 j] w fun e w' => e = .returned (.int .i64 3) ∧ Below w.heap.size w w' := by
  have KA := fun w => keepk_calls a w
  rw [h_ka] at KA
  replace KA := Lib.hid KA
  clear h_ka
  have CB := fun w => cov_calls b a w
  rw [h_cb] at CB
  replace CB := Lib.hid CB
  clear h_cb
  have CA := fun w => cov_calls a b w
  rw [h_ca] at CA
  replace CA := Lib.hid CA
  clear h_ca
  have hi5 : (i : Int) < (L : Int) := by omega
  have hj5 : (j : Int) < (L : Int) := by omega
  have hcc := KK w (Below.refl _ _)
  replace KK := Lib.hid KK
  go_enter Try.func45, Try.ntmps45
  go_upto_region 1 with fail
  go_region_held3 (fun w' => (w'.cell? (ad.add (i * 3)) = some (.int .i64 a.k) ∧ w'.cell? { block := (ad.add (i * 3)).block, off := (ad.add (i * 3)).off + 1 } = some (.int .i64 a.l) ∧ w'.cell? { block := (ad.add (i * 3)).block, off := (ad.add (i * 3)).off + 2 } = some (.int .i64 a.f)) ∧ w'.cell? (ad.add (j * 3)) = some (.int .i64 b.k) ∧ w'.cell? { block := (ad.add (j * 3)).block, off := (ad.add (j * 3)).off + 1 } = some (.int .i64 b.l) ∧ w'.cell? { block := (ad.add (j * 3)).block, off := (ad.add (j * 3)).off + 2 } = some (.int .i64 b.f)) (first | exact hcc | exact KK.out _ (below_drew (below_alloc (Below.refl _ _) _)) | exact KK.out _ (below_drew (below_alloc (below_alloc (Below.refl _ _) _) _))) (fail)
  · have H0 := Lib.hid (b2_a w a b)
    obtain ⟨p, hp⟩ : ∃ p, w.heap.size = p := ⟨_, rfl⟩
    obtain ⟨q, hq⟩ : ∃ q, w.heap.size + 1 = q := ⟨_, rfl⟩
    rw [hq] at H0
    rw [hq]
    clear hq hp hcc KK
    have hp0 := H0.out.p.cells
    have hq0 := H0.out.q.cells
    generalize (World.drew _) = W at *
    go_wp2_with (first | (go_at_call 54; (with_reducible refine (KA.out _).mono ?_); rintro e w1 ⟨rfl, hb1⟩; replace H0 := Lib.hid (H0.out.below hb1); have hp1 := H0.out.p.cells; have hq1 := H0.out.q.cells; clear hb1) | (go_at_call 55; (with_reducible refine (CB.out _).mono ?_); rintro e w2 ⟨rfl, hb2⟩; replace H0 := Lib.hid (H0.out.below hb2); have hp2 := H0.out.p.cells; have hq2 := H0.out.q.cells; clear hb2 CB) | (go_at_call 55; (with_reducible refine (CA.out _).mono ?_); rintro e w3 ⟨rfl, hb3⟩; replace H0 := Lib.hid (H0.out.below hb3); clear hb3))
    go_ret
    exact ⟨rfl, H0.out.bel⟩
  · have H0 := Lib.hid (b2_a w b a).swap
    obtain ⟨q, hq⟩ : ∃ q, w.heap.size + 1 = q := ⟨_, rfl⟩
    rw [hq] at H0
    rw [hq]
    clear hq hcc KK
    have hp0 := H0.out.p.cells
    have hq0 := H0.out.q.cells
    generalize (World.drew _) = W at *
    go_wp2_with (first | (go_at_call 54; (with_reducible refine (KA.out _).mono ?_); rintro e w1 ⟨rfl, hb1⟩; replace H0 := Lib.hid (H0.out.below hb1); have hp1 := H0.out.p.cells; have hq1 := H0.out.q.cells; clear hb1) | (go_at_call 55; (with_reducible refine (CB.out _).mono ?_); rintro e w2 ⟨rfl, hb2⟩; replace H0 := Lib.hid (H0.out.below hb2); have hp2 := H0.out.p.cells; have hq2 := H0.out.q.cells; clear hb2 CB) | (go_at_call 55; (with_reducible refine (CA.out _).mono ?_); rintro e w3 ⟨rfl, hb3⟩; replace H0 := Lib.hid (H0.out.below hb3); clear hb3))
    go_ret
    exact ⟨rfl, H0.out.bel⟩
set_option maxRecDepth 100000 in
set_option maxHeartbeats 2000000 in
theorem why_l9 {L : Nat} {ad : Addr} {c0 i j : Nat} {a b : Ru} {w : World} (KK : ∀ w', Below w.heap.size w w' → (w'.cell? (ad.add (i * 3)) = some (.int .i64 a.k) ∧ w'.cell? { block := (ad.add (i * 3)).block, off := (ad.add (i * 3)).off + 1 } = some (.int .i64 a.l) ∧ w'.cell? { block := (ad.add (i * 3)).block, off := (ad.add (i * 3)).off + 2 } = some (.int .i64 a.f)) ∧ w'.cell? (ad.add (j * 3)) = some (.int .i64 b.k) ∧ w'.cell? { block := (ad.add (j * 3)).block, off := (ad.add (j * 3)).off + 1 } = some (.int .i64 b.l) ∧ w'.cell? { block := (ad.add (j * 3)).block, off := (ad.add (j * 3)).off + 2 } = some (.int .i64 b.f)) (hi : i < L) (hj : j < L) (hL : L ≤ 1000) (h_ka : kp a = true) (h_b4 : (b.k == 4) = false) (h_a4 : (a.k == 4) = false) (h_cb : cov b a = true) (h_ca : cov a b = true) (h_g : decide (j < i) = true) :
    Calls Try.prog 45 #[.slice (some ad) L c0, .int .i64 i, .int .i64 j] w fun e w' => e = .returned (.int .i64 3) ∧ Below w.heap.size w w' := by
  have KA := fun w => keepk_calls a w
  rw [h_ka] at KA
  replace KA := Lib.hid KA
  clear h_ka
  have CB := fun w => cov_calls b a w
  rw [h_cb] at CB
  replace CB := Lib.hid CB
  clear h_cb
  have CA := fun w => cov_calls a b w
  rw [h_ca] at CA
  replace CA := Lib.hid CA
  clear h_ca
  have hgi : decide ((j : Int) < (i : Int)) = true := by
    have : decide ((j : Int) < (i : Int)) = decide (j < i) := by congr 1; exact propext (by omega)
    rw [this, h_g]
  have hi5 : (i : Int) < (L : Int) := by omega
  have hj5 : (j : Int) < (L : Int) := by omega
  have hcc := KK w (Below.refl _ _)
  replace KK := Lib.hid KK
  go_enter Try.func45, Try.ntmps45
  go_upto_region 1 with fail
  go_region_held3 (fun w' => (w'.cell? (ad.add (i * 3)) = some (.int .i64 a.k) ∧ w'.cell? { block := (ad.add (i * 3)).block, off := (ad.add (i * 3)).off + 1 } = some (.int .i64 a.l) ∧ w'.cell? { block := (ad.add (i * 3)).block, off := (ad.add (i * 3)).off + 2 } = some (.int .i64 a.f)) ∧ w'.cell? (ad.add (j * 3)) = some (.int .i64 b.k) ∧ w'.cell? { block := (ad.add (j * 3)).block, off := (ad.add (j * 3)).off + 1 } = some (.int .i64 b.l) ∧ w'.cell? { block := (ad.add (j * 3)).block, off := (ad.add (j * 3)).off + 2 } = some (.int .i64 b.f)) (first | exact hcc | exact KK.out _ (below_drew (below_alloc (Below.refl _ _) _)) | exact KK.out _ (below_drew (below_alloc (below_alloc (Below.refl _ _) _) _))) (fail)
  · have H0 := Lib.hid (b2_a w a b)
    obtain ⟨p, hp⟩ : ∃ p, w.heap.size = p := ⟨_, rfl⟩
    obtain ⟨q, hq⟩ : ∃ q, w.heap.size + 1 = q := ⟨_, rfl⟩
    rw [hq] at H0
    rw [hq]
    clear hq hp hcc KK
    have hp0 := H0.out.p.cells
    have hq0 := H0.out.q.cells
    generalize (World.drew _) = W at *
    go_wp2_with (first | (go_at_call 54; (with_reducible refine (KA.out _).mono ?_); rintro e w1 ⟨rfl, hb1⟩; replace H0 := Lib.hid (H0.out.below hb1); have hp1 := H0.out.p.cells; have hq1 := H0.out.q.cells; clear hb1) | (go_at_call 55; (with_reducible refine (CB.out _).mono ?_); rintro e w2 ⟨rfl, hb2⟩; replace H0 := Lib.hid (H0.out.below hb2); have hp2 := H0.out.p.cells; have hq2 := H0.out.q.cells; clear hb2 CB) | (go_at_call 55; (with_reducible refine (CA.out _).mono ?_); rintro e w3 ⟨rfl, hb3⟩; replace H0 := Lib.hid (H0.out.below hb3); clear hb3))
    go_ret
    exact ⟨rfl, H0.out.bel⟩
  · have H0 := Lib.hid (b2_a w b a).swap
    obtain ⟨q, hq⟩ : ∃ q, w.heap.size + 1 = q := ⟨_, rfl⟩
    rw [hq] at H0
    rw [hq]
    clear hq hcc KK
    have hp0 := H0.out.p.cells
    have hq0 := H0.out.q.cells
    generalize (World.drew _) = W at *
    go_wp2_with (first | (go_at_call 54; (with_reducible refine (KA.out _).mono ?_); rintro e w1 ⟨rfl, hb1⟩; replace H0 := Lib.hid (H0.out.below hb1); have hp1 := H0.out.p.cells; have hq1 := H0.out.q.cells; clear hb1) | (go_at_call 55; (with_reducible refine (CB.out _).mono ?_); rintro e w2 ⟨rfl, hb2⟩; replace H0 := Lib.hid (H0.out.below hb2); have hp2 := H0.out.p.cells; have hq2 := H0.out.q.cells; clear hb2 CB) | (go_at_call 55; (with_reducible refine (CA.out _).mono ?_); rintro e w3 ⟨rfl, hb3⟩; replace H0 := Lib.hid (H0.out.below hb3); clear hb3))
    go_ret
    exact ⟨rfl, H0.out.bel⟩
set_option maxRecDepth 100000 in
set_option maxHeartbeats 2000000 in
theorem why_l10 {L : Nat} {ad : Addr} {c0 i j : Nat} {a b : Ru} {w : World} (KK : ∀ w', Below w.heap.size w w' → (w'.cell? (ad.add (i * 3)) = some (.int .i64 a.k) ∧ w'.cell? { block := (ad.add (i * 3)).block, off := (ad.add (i * 3)).off + 1 } = some (.int .i64 a.l) ∧ w'.cell? { block := (ad.add (i * 3)).block, off := (ad.add (i * 3)).off + 2 } = some (.int .i64 a.f)) ∧ w'.cell? (ad.add (j * 3)) = some (.int .i64 b.k) ∧ w'.cell? { block := (ad.add (j * 3)).block, off := (ad.add (j * 3)).off + 1 } = some (.int .i64 b.l) ∧ w'.cell? { block := (ad.add (j * 3)).block, off := (ad.add (j * 3)).off + 2 } = some (.int .i64 b.f)) (hi : i < L) (hj : j < L) (hL : L ≤ 1000) (h_ka : kp a = true) (h_b4 : (b.k == 4) = false) (h_a4 : (a.k == 4) = false) (h_cb : cov b a = true) (h_ca : cov a b = true) (h_g : decide (j < i) = false) :
    Calls Try.prog 45 #[.slice (some ad) L c0, .int .i64 i, .int .i64 j] w fun e w' => e = .returned (.int .i64 0) ∧ Below w.heap.size w w' := by
  have KA := fun w => keepk_calls a w
  rw [h_ka] at KA
  replace KA := Lib.hid KA
  clear h_ka
  have CB := fun w => cov_calls b a w
  rw [h_cb] at CB
  replace CB := Lib.hid CB
  clear h_cb
  have CA := fun w => cov_calls a b w
  rw [h_ca] at CA
  replace CA := Lib.hid CA
  clear h_ca
  have hgi : decide ((j : Int) < (i : Int)) = false := by
    have : decide ((j : Int) < (i : Int)) = decide (j < i) := by congr 1; exact propext (by omega)
    rw [this, h_g]
  have hi5 : (i : Int) < (L : Int) := by omega
  have hj5 : (j : Int) < (L : Int) := by omega
  have hcc := KK w (Below.refl _ _)
  replace KK := Lib.hid KK
  go_enter Try.func45, Try.ntmps45
  go_upto_region 1 with fail
  go_region_held3 (fun w' => (w'.cell? (ad.add (i * 3)) = some (.int .i64 a.k) ∧ w'.cell? { block := (ad.add (i * 3)).block, off := (ad.add (i * 3)).off + 1 } = some (.int .i64 a.l) ∧ w'.cell? { block := (ad.add (i * 3)).block, off := (ad.add (i * 3)).off + 2 } = some (.int .i64 a.f)) ∧ w'.cell? (ad.add (j * 3)) = some (.int .i64 b.k) ∧ w'.cell? { block := (ad.add (j * 3)).block, off := (ad.add (j * 3)).off + 1 } = some (.int .i64 b.l) ∧ w'.cell? { block := (ad.add (j * 3)).block, off := (ad.add (j * 3)).off + 2 } = some (.int .i64 b.f)) (first | exact hcc | exact KK.out _ (below_drew (below_alloc (Below.refl _ _) _)) | exact KK.out _ (below_drew (below_alloc (below_alloc (Below.refl _ _) _) _))) (fail)
  · have H0 := Lib.hid (b2_a w a b)
    obtain ⟨p, hp⟩ : ∃ p, w.heap.size = p := ⟨_, rfl⟩
    obtain ⟨q, hq⟩ : ∃ q, w.heap.size + 1 = q := ⟨_, rfl⟩
    rw [hq] at H0
    rw [hq]
    clear hq hp hcc KK
    have hp0 := H0.out.p.cells
    have hq0 := H0.out.q.cells
    generalize (World.drew _) = W at *
    go_wp2_with (first | (go_at_call 54; (with_reducible refine (KA.out _).mono ?_); rintro e w1 ⟨rfl, hb1⟩; replace H0 := Lib.hid (H0.out.below hb1); have hp1 := H0.out.p.cells; have hq1 := H0.out.q.cells; clear hb1) | (go_at_call 55; (with_reducible refine (CB.out _).mono ?_); rintro e w2 ⟨rfl, hb2⟩; replace H0 := Lib.hid (H0.out.below hb2); have hp2 := H0.out.p.cells; have hq2 := H0.out.q.cells; clear hb2 CB) | (go_at_call 55; (with_reducible refine (CA.out _).mono ?_); rintro e w3 ⟨rfl, hb3⟩; replace H0 := Lib.hid (H0.out.below hb3); clear hb3))
    go_ret
    exact ⟨rfl, H0.out.bel⟩
  · have H0 := Lib.hid (b2_a w b a).swap
    obtain ⟨q, hq⟩ : ∃ q, w.heap.size + 1 = q := ⟨_, rfl⟩
    rw [hq] at H0
    rw [hq]
    clear hq hcc KK
    have hp0 := H0.out.p.cells
    have hq0 := H0.out.q.cells
    generalize (World.drew _) = W at *
    go_wp2_with (first | (go_at_call 54; (with_reducible refine (KA.out _).mono ?_); rintro e w1 ⟨rfl, hb1⟩; replace H0 := Lib.hid (H0.out.below hb1); have hp1 := H0.out.p.cells; have hq1 := H0.out.q.cells; clear hb1) | (go_at_call 55; (with_reducible refine (CB.out _).mono ?_); rintro e w2 ⟨rfl, hb2⟩; replace H0 := Lib.hid (H0.out.below hb2); have hp2 := H0.out.p.cells; have hq2 := H0.out.q.cells; clear hb2 CB) | (go_at_call 55; (with_reducible refine (CA.out _).mono ?_); rintro e w3 ⟨rfl, hb3⟩; replace H0 := Lib.hid (H0.out.below hb3); clear hb3))
    go_ret
    exact ⟨rfl, H0.out.bel⟩
theorem why_calls {R : List Ru} {A0 : Option Addr} {c0 i j : Nat} {w : World} (hR : RuRow w w.heap.size A0 R) (hi : i < R.length) (hj : j < R.length) (hL : R.length ≤ 1000) :
    Calls Try.prog 45 #[.slice A0 R.length c0, .int .i64 i, .int .i64 j] w fun e w' => e = .returned (.int .i64 (whyP (R.getD i zr) (R.getD j zr) (decide (j < i)))) ∧ Below w.heap.size w w' := by
  rw [getD_at_ hi, getD_at_ hj]
  obtain ⟨ad, rfl, hb, hc⟩ := hR (by omega)
  have KK : ∀ w', Below w.heap.size w w' → (w'.cell? (ad.add (i * 3)) = some (.int .i64 R[i].k) ∧ w'.cell? { block := (ad.add (i * 3)).block, off := (ad.add (i * 3)).off + 1 } = some (.int .i64 R[i].l) ∧ w'.cell? { block := (ad.add (i * 3)).block, off := (ad.add (i * 3)).off + 2 } = some (.int .i64 R[i].f)) ∧ w'.cell? (ad.add (j * 3)) = some (.int .i64 R[j].k) ∧ w'.cell? { block := (ad.add (j * 3)).block, off := (ad.add (j * 3)).off + 1 } = some (.int .i64 R[j].l) ∧ w'.cell? { block := (ad.add (j * 3)).block, off := (ad.add (j * 3)).off + 2 } = some (.int .i64 R[j].f) := fun w' h => by
    obtain ⟨ad2, e, _, h2⟩ := (hR.below h) (by omega)
    injection e with e
    subst e
    exact ⟨⟨(h2 i hi).c0, (h2 i hi).c1, (h2 i hi).c2⟩, (h2 j hj).c0, (h2 j hj).c1, (h2 j hj).c2⟩
  generalize R[i] = a at *
  generalize R[j] = b at *
  have hk4 : kp a = true → (a.k == 4) = false := fun h => beq_eq_false_iff_ne.2 (kp_not4 h)
  have hc4 : cov b a = true → kp a = true ∧ (b.k == 4) = false := fun h => ⟨(cov_parts.1 h).2.1, beq_eq_false_iff_ne.2 (kp_not4 (cov_parts.1 h).1)⟩
  unfold whyP
  cases ka : kp a with
  | true =>
    have a4 := hk4 ka
    cases b4 : (b.k == 4) with
    | true =>
      cases lt : decide (b.f < a.f) with
      | true => simpa using why_l1 KK hi hj hL ka b4 lt
      | false =>
        cases cb : cov b a with
        | true => have := (hc4 cb).2; rw [b4] at this; cases this
        | false => simpa [a4] using why_l6 KK hi hj hL ka b4 lt a4 cb
    | false =>
      cases cb : cov b a with
      | false => simpa [a4] using why_l7 KK hi hj hL ka b4 a4 cb
      | true =>
        cases ca : cov a b with
        | false => simpa [a4] using why_l8 KK hi hj hL ka b4 a4 cb ca
        | true =>
          cases g : decide (j < i) with
          | true => simpa [a4] using why_l9 KK hi hj hL ka b4 a4 cb ca g
          | false => simpa [a4] using why_l10 KK hi hj hL ka b4 a4 cb ca g
  | false =>
    have cb : cov b a = false := by
      cases cb : cov b a with
      | false => rfl
      | true => have := (hc4 cb).1; rw [ka] at this; cases this
    cases a4 : (a.k == 4) with
    | false => simpa [cb] using why_l5 KK hi hj hL ka a4 cb
    | true =>
      cases b4 : (b.k == 4) with
      | false => simpa [cb] using why_l4 KK hi hj hL ka a4 b4 cb
      | true =>
        cases g : decide (j < i) with
        | true => simpa [cb] using why_l2 KK hi hj hL ka a4 b4 g
        | false => simpa [cb] using why_l3 KK hi hj hL ka a4 b4 g cb
end Go.Proofs.Ytonlbeonblpblaa.All
