/-
  The law CalautoKeeps tells true of every input. No condition.
-/
import Derived.Test.YtonlbeonblpblaaKeepP
import Derived.Test.YtonlbeonblpblaaHeldZ
namespace Go.Proofs.Ytonlbeonblpblaa.All
open Go.RowKit Go.Proofs.YtonlbeonblpblaaW.PrintWords Go.Proofs.YtonlbeonblpblaaW.PrintLast Go.Proofs.YtonlbeonblpblaaW.PrintMore Go.Proofs.Ytonlbeonblpblaa.Wd
set_option linter.unusedVariables false
set_option linter.unusedSimpArgs false
private theorem ym (motive : Option Value → Sort _) (h1 : (b : Bool) → motive (some (.bool b))) (h2 : (x : Option Value) → motive x) : Go.yielded.match_1 motive (some undef) h1 h2 = h2 (some undef) := rfl
attribute [local go_sem, local simp] ym
set_option maxRecDepth 100000 in
set_option maxHeartbeats 4000000 in
theorem keeps_skip (P : Option Addr) (cs k : Nat) (a1 a2 now : Int) (w : World) (h : 30 < k) :
    Calls Try.prog 8 #[.slice P k cs, .int .u8 a1, .int .u8 a2, .int .u16 now] w fun e w' => e = .returned (.bool true) ∧ Below w.heap.size w w' := by
  have q1 : decide ((30 : Int) < (k : Int)) = true := decide_eq_true (by omega)
  go_enter Try.func8, Try.ntmps8
  go_wp2_with (go_at_call 11; refine (awake_calls _).mono ?_; rintro e w1 ⟨rfl, hb1⟩; replace hb1 := Lib.hid hb1)
  go_ret
  exact ⟨rfl, hb1.out⟩
/-- What the rounds keep: both calendars, and the document's table. -/
structure KI (w wr : World) (R1 R2 : List Ru) (M : List It) (base b : Nat) (q1 k1 : Nat) (A1 : Option Addr) (c1 : Nat) (ks1 : List (Ru × Nat)) (q2 k2 : Nat) (A2 : Option Addr) (c2 : Nat) (ks2 : List (Ru × Nat)) (g : Nat) (An Am Ao : Option Addr) (cn cm co : Nat) : Prop where
  a : LW w wr R1 M base b k1 q1 A1 c1 ks1
  b : LW w wr R2 M base b k2 q2 A2 c2 ks2
  x : XTab wr g An Am Ao cn cm co M
theorem KI.below {w wr w2 : World} {R1 R2 : List Ru} {M : List It} {base b q1 k1 c1 q2 k2 c2 g cn cm co : Nat} {A1 A2 An Am Ao : Option Addr} {ks1 ks2 : List (Ru × Nat)} (h : KI w wr R1 R2 M base b q1 k1 A1 c1 ks1 q2 k2 A2 c2 ks2 g An Am Ao cn cm co) (hb : Below wr.heap.size wr w2) : KI w w2 R1 R2 M base b q1 k1 A1 c1 ks1 q2 k2 A2 c2 ks2 g An Am Ao cn cm co := ⟨h.a.below hb, h.b.below hb, h.x.below hb⟩
/-- The document's cells at a place. -/
def XF (wr : World) (g qn qm cn cm len i : Nat) (xn xm : Int) : Prop := wr.cell? { block := g, off := 0 } = some (.slice (some ⟨qn, 0, none⟩) len cn) ∧ wr.cell? { block := g, off := 1 } = some (.slice (some ⟨qm, 0, none⟩) len cm) ∧ wr.cell? { block := qn, off := i } = some (.int .u64 xn) ∧ wr.cell? { block := qm, off := i } = some (.int .i64 xm)
theorem xt_at {w : World} {g : Nat} {An Am Ao : Option Addr} {cn cm co : Nat} {M : List It} (h : XTab w g An Am Ao cn cm co M) (h0 : 0 < M.length) : ∃ qn qm, An = some ⟨qn, 0, none⟩ ∧ Am = some ⟨qm, 0, none⟩ := by
  obtain ⟨q1, e1, _⟩ := h.n.at_ (k := 0) (by simpa using h0)
  obtain ⟨q2, e2, _⟩ := h.m.at_ (k := 0) (by simpa using h0)
  exact ⟨q1, q2, e1, e2⟩
theorem xf_at {w : World} {g qn qm : Nat} {Ao : Option Addr} {cn cm co : Nat} {M : List It} (h : XTab w g (some ⟨qn, 0, none⟩) (some ⟨qm, 0, none⟩) Ao cn cm co M) {i : Nat} (hi : i < M.length) : XF w g qn qm cn cm M.length i M[i].n M[i].m := by
  obtain ⟨x0, x1, _⟩ := h.cells
  obtain ⟨q1, e1, c1⟩ := h.n.at_ (k := i) (by simpa using hi)
  obtain ⟨q2, e2, c2⟩ := h.m.at_ (k := i) (by simpa using hi)
  injection e1 with e1
  injection e1 with e1
  injection e2 with e2
  injection e2 with e2
  subst e1 e2
  rw [List.getElem_map] at c1 c2
  exact ⟨x0, x1, c1, c2⟩
theorem zero_lw {w wr : World} {R : List Ru} {M : List It} {base b kb q : Nat} {A : Option Addr} {c : Nat} {ks : List (Ru × Nat)} (h : LW w wr R M base b kb q A c ks) : LW w (wr.alloc (.cells #[.slice none 0 0, .int .i64 0, .bool false] 32)) [] M base b 0 wr.heap.size none 0 [] := by
  have hb := below_alloc (Below.refl wr.heap.size wr) (.cells #[.slice none 0 0, .int .i64 0, .bool false] 32)
  have h2 := h.kt.below hb
  exact ⟨⟨h2.t, ⟨⟨rfl, .inl ⟨rfl, rfl⟩⟩, fun p hp => absurd hp (by simp)⟩, h2.bel, h2.l1, h2.l2, h2.l3⟩, heap_alloc_new wr _, ⟨by simp, fun r hr => absurd hr (by simp)⟩, rfl⟩
set_option maxRecDepth 100000 in
set_option maxHeartbeats 4000000 in
theorem keeps_in (P : Option Addr) (cs : Nat) (L : List Int) (a1 a2 now : Int) (w : World) (hS : Reads w w.heap.size 1 P L.length (L.map (Value.int .u8))) (hs : Steps L) (h30 : L.length ≤ 30) (ha1 : 0 ≤ a1 ∧ a1 ≤ 255) (ha2 : 0 ≤ a2 ∧ a2 ≤ 255) (hnow : 0 ≤ now ∧ now ≤ 65535) :
    Calls Try.prog 8 #[.slice P L.length cs, .int .u8 a1, .int .u8 a2, .int .u16 now] w fun e w' => e = .returned (.bool true) ∧ Below w.heap.size w w' := by
  have q0 : decide ((30 : Int) < (L.length : Int)) = false := decide_eq_false (by omega)
  have G := Lib.hid (mkM_good hs (Nat.le_refl _) h30)
  have UP := Lib.hid (mk_up hs)
  have ML : (mkM L L.length).length = L.length := mkM_length _ _
  replace hS := Lib.hid hS
  replace hs := Lib.hid hs
  have d1 : IntKind.i64.wrap a1 = a1 := IntWalk.i64_in _ (by omega)
  have d2 : IntKind.i64.wrap a2 = a2 := IntWalk.i64_in _ (by omega)
  have d3 : IntKind.i64.wrap (1 + a1) = 1 + a1 := IntWalk.i64_in _ (by omega)
  have d4 : IntKind.i64.wrap (1 + a2) = 1 + a2 := IntWalk.i64_in _ (by omega)
  have e1 : wrap64 a1 = a1 := (i64_w _).symm.trans d1
  have e2 : wrap64 a2 = a2 := (i64_w _).symm.trans d2
  have e3 : wrap64 (1 + a1) = 1 + a1 := (i64_w _).symm.trans d3
  have e4 : wrap64 (1 + a2) = 1 + a2 := (i64_w _).symm.trans d4
  obtain ⟨n, hn⟩ : ∃ n, 1 + a1 = n := ⟨_, rfl⟩
  obtain ⟨f, hf⟩ : ∃ f, 1 + a2 = f := ⟨_, rfl⟩
  have hn1 : 1 ≤ n ∧ n ≤ 256 := by omega
  have hf1 : 1 ≤ f ∧ f ≤ 256 := by omega
  have rt1 : Rt [⟨2, n, f⟩] := one_rt (by unfold rightB spanB; simp; omega)
  have rt2 : Rt [⟨1, 0, f⟩] := one_rt (by unfold rightB spanB; simp; omega)
  have RT1 := Lib.hid rt1
  have RT2 := Lib.hid rt2
  clear rt1 rt2
  go_enter Try.func8, Try.ntmps8
  go_upto_region 6 with (go_at_call 11; refine (awake_calls _).mono ?_; rintro e w1 ⟨rfl, hb1⟩; replace hb1 := Lib.hid hb1)
  clear d1 d2 d3 d4 e1 e2 e3 e4 hn hf ha1 ha2
  have X1 := Lib.hid (below_alloc (Below.refl w1.heap.size w1) (.cells #[.int .i64 2, .int .i64 n, .int .i64 f] 24))
  have hb1a := Lib.hid (hb1.out.trans (X1.out.mono hb1.out.size))
  have C1 : Hid (Calls Try.prog 14 #[.slice (some ⟨w1.heap.size, 0, none⟩) 1 1] (w1.alloc (.cells #[.int .i64 2, .int .i64 n, .int .i64 f] 24)) (CompPost [⟨2, n, f⟩] (w1.alloc (.cells #[.int .i64 2, .int .i64 n, .int .i64 f] 24)))) := Lib.hid (compile_ok (c0 := 1) (ru_one (W := w1) (k := 2) (l := n) (f := f)) RT1.out.len RT1.out.r)
  go_upto_region 7 with (go_at_call 14; (with_reducible refine C1.out.mono ?_); rintro e w2 ⟨A1, c1, ks1, rfl, hk2, hm2, hb2⟩; replace hb2 := Lib.hid hb2; replace hk2 := Lib.hid hk2; replace hm2 := Lib.hid hm2)
  have X2 := Lib.hid (below_alloc (Below.refl w2.heap.size w2) (.cells #[.slice A1 ks1.length c1, .int .i64 (neverF [⟨2, n, f⟩]).1, .bool (neverF [⟨2, n, f⟩]).2] 32))
  have hb2a := Lib.hid (hb2.out.trans (X2.out.mono hb2.out.size))
  generalize hW2 : w2.alloc (.cells #[.slice A1 ks1.length c1, .int .i64 (neverF [⟨2, n, f⟩]).1, .bool (neverF [⟨2, n, f⟩]).2] 32) = W2 at *
  have X3 := Lib.hid (below_alloc (Below.refl W2.heap.size W2) (.cells #[.int .i64 1, .int .i64 0, .int .i64 f] 24))
  have hbw2 := Lib.hid (hb1a.out.trans (hb2a.out.mono hb1a.out.size))
  have hbw2r := Lib.hid (hbw2.out.trans (X3.out.mono hbw2.out.size))
  have C2 : Hid (Calls Try.prog 14 #[.slice (some ⟨W2.heap.size, 0, none⟩) 1 1] (W2.alloc (.cells #[.int .i64 1, .int .i64 0, .int .i64 f] 24)) (CompPost [⟨1, 0, f⟩] (W2.alloc (.cells #[.int .i64 1, .int .i64 0, .int .i64 f] 24)))) := Lib.hid (compile_ok (c0 := 1) (ru_one (W := W2) (k := 1) (l := 0) (f := f)) RT2.out.len RT2.out.r)
  go_upto_region 8 with (go_at_call 14; (with_reducible refine C2.out.mono ?_); rintro e w3 ⟨A2, c2, ks2, rfl, hk3, hm3, hb3⟩; replace hb3 := Lib.hid hb3; replace hk3 := Lib.hid hk3; replace hm3 := Lib.hid hm3)
  have X4 := Lib.hid (below_alloc (Below.refl w3.heap.size w3) (.cells #[.slice A2 ks2.length c2, .int .i64 (neverF [⟨1, 0, f⟩]).1, .bool (neverF [⟨1, 0, f⟩]).2] 32))
  have hb3a := Lib.hid (hb3.out.trans (X4.out.mono hb3.out.size))
  have hbw3 := Lib.hid (hbw2r.out.trans (hb3a.out.mono hbw2r.out.size))
  have hb23 := Lib.hid (X3.out.trans (hb3a.out.mono X3.out.size))
  go_upto_region 9 with (go_at_call 15; (with_reducible refine (made_calls (B := w.heap.size) (hS.out.below hbw3.out) hbw3.out.size hs.out h30).mono ?_); rintro e w4 ⟨b, gx, rfl, ⟨base, A4, c4, hl1, hl2, hl3, ht4⟩, ⟨An, Am, Ao, cn, cm, co, hx4⟩, hb4⟩; have hl1' := Nat.le_trans hb23.out.size hl1; have hl2' := Nat.le_trans hb23.out.size hl2; have hb4' := hb23.out.trans (hb4.mono hb23.out.size); rw [← hW2] at hl1' hl2' hb4'; have H1 := lw_mk RT1.out hb1a.out hk2.out hm2.out hb2.out hl1' hl2' hl3 ⟨_, _, ht4⟩ hb4'; have H2 := lw_mk RT2.out hbw2r.out hk3.out hm3.out hb3.out hl1 hl2 hl3 ⟨_, _, ht4⟩ hb4; have H := Lib.hid (KI.mk H1 H2 hx4); clear hl1 hl2 hl3 ht4 hx4 hb4 H1 H2 hl1' hl2' hb4')
  generalize mkM L L.length = M at *
  have hM30 : M.length ≤ 30 := by omega
  clear C1 C2 X1 X2 X3 X4 hb1a hb2a hbw2 hbw2r hb3a hbw3 hb23 hb1 hb2 hb3 hk2 hm2 hk3 hm3 hW2 hS hs
  generalize w2.heap.size = q1 at *
  generalize w3.heap.size = q2 at *
  generalize (w1.alloc (.cells #[.int .i64 2, .int .i64 n, .int .i64 f] 24)).heap.size = k1 at *
  generalize (W2.alloc (.cells #[.int .i64 1, .int .i64 0, .int .i64 f] 24)).heap.size = k2 at *
  go_wp2
  go_loopw [17] (fun v17 wr => ∃ i, v17 = .int .i64 (i : Nat) ∧ i ≤ M.length ∧ Hid (KI w wr [⟨2, n, f⟩] [⟨1, 0, f⟩] M base b q1 k1 A1 c1 ks1 q2 k2 A2 c2 ks2 gx An Am Ao cn cm co)) (fun v17 _ => M.length - (intOf v17).toNat)
  case atStart => exact ⟨0, rfl, Nat.zero_le _, H⟩
  case round =>
    clear H
    obtain ⟨i, rfl, hi, H⟩ := hrel
    have x0 := H.out.x.cells.1
    by_cases hlt : i < M.length
    · obtain ⟨qn, qm, rfl, rfl⟩ := xt_at H.out.x (by omega)
      have hxi := xf_at H.out.x hlt
      have hrng := G.out.min M[i] (List.getElem_mem hlt)
      have hq4 : decide ((i : Int) < (M.length : Int)) = true := decide_eq_true (by omega)
      have hq5 : (i : Int) < (M.length : Int) := by omega
      have S2 := fun wr h => LW.stays (w := w) (wr := wr) (R := [⟨1, 0, f⟩]) (base := base) (b := b) (kb := k2) (q := q2) (A := A2) (c := c2) (ks := ks2) h G.out M[i].n now
      rw [sy_eq (hit_in G.out.up hlt), one_till (by decide) (hit_in G.out.up hlt), if_pos (show keepM M M[i].n ⟨1, 0, f⟩ = true by unfold keepM; exact if_pos rfl), min_at G.out.up hlt] at S2
      replace S2 := Lib.hid S2
      obtain ⟨xn, hxn⟩ : ∃ xn, xn = M[i].n := ⟨_, rfl⟩
      obtain ⟨xm, hxm⟩ : ∃ xm, xm = M[i].m := ⟨_, rfl⟩
      rw [← hxn, ← hxm] at hxi S2
      rw [← hxm] at hrng
      have HX := Lib.hid (show ∀ wr, XTab wr gx (some ⟨qn, 0, none⟩) (some ⟨qm, 0, none⟩) Ao cn cm co M → XF wr gx qn qm cn cm M.length i xn xm from fun wr h => by have := xf_at h hlt; rwa [← hxn, ← hxm] at this)
      have EN := Lib.hid hxn
      have EM := Lib.hid hxm
      clear hxn hxm
      have d1 : IntKind.i64.wrap (xm + f) = xm + f := IntWalk.i64_in _ (by omega)
      have d2 : wrap64 (xm + f) = xm + f := (i64_w _).symm.trans d1
      have d3 : IntKind.i64.wrap now = now := IntWalk.i64_in _ (by omega)
      have d4 : wrap64 now = now := (i64_w _).symm.trans d3
      unfold XF at hxi
      have hc1 := And.intro H.out.b.cells hxi
      go_upto_region 14 with fail
      go_region_held3 (fun w' => (w'.cell? { block := q2, off := 0 } = some (.slice A2 ks2.length c2) ∧ w'.cell? { block := q2, off := 1 } = some (.int .i64 (neverF [⟨1, 0, f⟩]).1) ∧ w'.cell? { block := q2, off := 2 } = some (.bool (neverF [⟨1, 0, f⟩]).2)) ∧ (w'.cell? { block := gx, off := 0 } = some (.slice (some ⟨qn, 0, none⟩) M.length cn) ∧ w'.cell? { block := gx, off := 1 } = some (.slice (some ⟨qm, 0, none⟩) M.length cm) ∧ w'.cell? { block := qn, off := i } = some (.int .u64 xn) ∧ w'.cell? { block := qm, off := i } = some (.int .i64 xm))) (first | exact hc1 | exact hc2)
        ((first
          | (go_at_call 23
             (with_reducible refine (S2.out _ (H.out.b.below (below_drew (Below.refl _ _)))).mono ?_)
             rintro e w5 ⟨rfl, hb5⟩
             have H5 := Lib.hid (H.out.below ((below_drew (Below.refl _ _)).trans hb5))
             have hc2 := And.intro H5.out.b.cells (HX.out _ H5.out.x)
             unfold XF at hc2
             clear hb5)))
      clear H hc1 hc2 hxi x0 S2 d1 d2
      have e9 : (n == 0) = false := beq_eq_false_iff_ne.2 (by omega)
      have e10 : ((n : Int) == 0) = false := e9
      go_wp2
      go_loopw [18, 19] (fun v18 v19 wr => ∃ l k, v18 = .int .i64 (l : Nat) ∧ v19 = .int .i64 (k : Nat) ∧ i ≤ l ∧ l < M.length ∧ i ≤ k ∧ k ≤ M.length ∧ Hid (∀ h : l < M.length, M[l].m / n = M[i].m / n) ∧ Hid (∀ j (h : j < M.length), l < j → j < k → M[j].m / n ≠ M[i].m / n) ∧ Hid (KI w wr [⟨2, n, f⟩] [⟨1, 0, f⟩] M base b q1 k1 A1 c1 ks1 q2 k2 A2 c2 ks2 gx (some ⟨qn, 0, none⟩) (some ⟨qm, 0, none⟩) Ao cn cm co)) (fun _ v19 _ => M.length - (intOf v19).toNat)
      case atStart => exact ⟨i, i, rfl, rfl, Nat.le_refl _, hlt, Nat.le_refl _, hi, Lib.hid (fun _ => rfl), Lib.hid (fun j h h1 h2 => by omega), H5⟩
      case round =>
        clear H5
        obtain ⟨l, k, rfl, rfl, hil, hll, hik, hkl, HE, HN, H5⟩ := hrel
        have x0 := H5.out.x.cells.1
        by_cases hk : k < M.length
        · have hxi := HX.out _ H5.out.x
          have hxk := xf_at H5.out.x hk
          obtain ⟨ym, hym⟩ : ∃ ym, ym = M[k].m := ⟨_, rfl⟩
          rw [← hym] at hxk
          have hrk := G.out.min M[k] (List.getElem_mem hk)
          rw [← hym] at hrk
          have EY := Lib.hid hym
          clear hym
          obtain ⟨z0, z1, z2, z3⟩ := hxi
          obtain ⟨z4, z5, z6, z7⟩ := hxk
          have d1 : IntKind.i64.wrap ((k : Int) + 1) = (k : Int) + 1 := IntWalk.i64_in _ (by omega)
          have d5 : 0 ≤ xm / n ∧ xm / n ≤ xm := ⟨Int.ediv_nonneg hrng.1 (by omega), Int.ediv_le_self _ hrng.1⟩
          have d6 : 0 ≤ ym / n ∧ ym / n ≤ ym := ⟨Int.ediv_nonneg hrk.1 (by omega), Int.ediv_le_self _ hrk.1⟩
          have d7 : IntKind.i64.wrap (xm / n) = xm / n := IntWalk.i64_in _ (by omega)
          have d8 : IntKind.i64.wrap (ym / n) = ym / n := IntWalk.i64_in _ (by omega)
          have d9 : wrap64 (xm / n) = xm / n := (i64_w _).symm.trans d7
          have d10 : wrap64 (ym / n) = ym / n := (i64_w _).symm.trans d8
          have hk5 : (k : Int) < (M.length : Int) := by omega
          by_cases hw : ym / n = xm / n
          · have q9 : ((ym / n : Int) == xm / n) = true := beq_iff_eq.2 hw
            go_upto_region 20 with fail
            go_quiet (fail)
            go_wp2
            exact ⟨⟨k, k + 1, rfl, by go_num, hik, hk, by omega, by omega, Lib.hid (fun _ => by rw [← EY.out, hw, EM.out]), Lib.hid (fun j h h1 h2 => by omega), Lib.hid (H5.out.below (pw_below_drewN (Below.refl _ _) _))⟩, by simp [intOf]; omega⟩
          · have q9 : ((ym / n : Int) == xm / n) = false := beq_eq_false_iff_ne.2 hw
            go_upto_region 20 with fail
            go_quiet (fail)
            go_wp2
            exact ⟨⟨l, k + 1, rfl, by go_num, hil, hll, by omega, by omega, HE, Lib.hid (fun j h h1 h2 => by
              by_cases e : j = k
              · subst e
                rw [← EY.out, ← EM.out]
                exact hw
              · exact HN.out j h h1 (by omega)), Lib.hid (H5.out.below (pw_below_drewN (Below.refl _ _) _))⟩, by simp [intOf]; omega⟩
        · obtain rfl : k = M.length := by omega
          have hcl := closes_last G.out hlt hll n hn1.1 (HE.out hll) (fun j h h1 => HN.out j h h1 h)
          have S1 := fun wr h => LW.stays (w := w) (wr := wr) (R := [⟨2, n, f⟩]) (base := base) (b := b) (kb := k1) (q := q1) (A := A1) (c := c1) (ks := ks1) h G.out M[l].n now
          rw [sy_eq (hit_in G.out.up hll), one_till (by decide) (hit_in G.out.up hll), if_pos (show keepM M M[l].n ⟨2, n, f⟩ = true by rw [keepM_w]; exact hcl), min_at G.out.up hll] at S1
          have hxi := HX.out _ H5.out.x
          have hxl := xf_at H5.out.x hll
          obtain ⟨zn, hzn⟩ : ∃ zn, zn = M[l].n := ⟨_, rfl⟩
          obtain ⟨zm, hzm⟩ : ∃ zm, zm = M[l].m := ⟨_, rfl⟩
          have hrl := G.out.min M[l] (List.getElem_mem hll)
          rw [← hzm] at hrl
          rw [← hzn, ← hzm] at hxl S1
          replace S1 := Lib.hid S1
          have HXL := Lib.hid (show ∀ wr, XTab wr gx (some ⟨qn, 0, none⟩) (some ⟨qm, 0, none⟩) Ao cn cm co M → XF wr gx qn qm cn cm M.length l zn zm from fun wr h => by have := xf_at h hll; rwa [← hzn, ← hzm] at this)
          have S3 := fun wr h => LW.stays (w := w) (wr := wr) (R := [⟨2, n, f⟩]) (base := base) (b := b) (kb := k1) (q := q1) (A := A1) (c := c1) (ks := ks1) h G.out M[i].n now
          have S3' := Lib.hid (show i < l → ∀ wr, LW w wr [⟨2, n, f⟩] M base b k1 q1 A1 c1 ks1 → Calls Try.prog 23 #[.agg #[.slice A1 ks1.length c1, .int .i64 (neverF [⟨2, n, f⟩]).1, .bool (neverF [⟨2, n, f⟩]).2], .pointer (some ⟨b, 0, none⟩), .int .u64 xn, .int .i64 now] wr fun e w' => e = .returned (.bool false) ∧ Below wr.heap.size wr w' from fun hil wr h => by
            have := S3 wr h
            rw [sy_eq (hit_in G.out.up hlt), one_till (by decide) (hit_in G.out.up hlt), if_neg (by rw [keepM_w, closes_not G.out UP.out hlt hll hil n hn1.1 (HE.out hll)]; decide), decide_eq_false (by omega), ← EN.out] at this
            exact this)
          clear hzn hzm hcl S3 HE HN
          unfold XF at hxi hxl
          have d1 : IntKind.i64.wrap (zm + f) = zm + f := IntWalk.i64_in _ (by omega)
          have d2 : wrap64 (zm + f) = zm + f := (i64_w _).symm.trans d1
          have hll5 : (l : Int) < (M.length : Int) := by omega
          have hll6 : l < L.length := by omega
          have hli6 : i < L.length := by omega
          have hll4 : decide ((l : Int) < (M.length : Int)) = true := decide_eq_true (by omega)
          have d8 : IntKind.i64.wrap ((i : Int) + 1) = (i : Int) + 1 := IntWalk.i64_in _ (by omega)
          by_cases hne : i < l
          · have S3 := Lib.hid (S3'.out hne)
            have q9 : ((l : Int) == (i : Int)) = false := beq_eq_false_iff_ne.2 (by omega)
            have q10 : (l == i) = false := beq_eq_false_iff_ne.2 (by omega)
            have q11 : decide ((l : Int) = (i : Int)) = false := decide_eq_false (by omega)
            have q12 : ((l : Int) != (i : Int)) = true := bne_iff_ne.2 (by omega)
            have q13 : decide (l = i) = false := decide_eq_false (by omega)
            have q14 : ¬ l = i := by omega
            clear S3'
            have hc5 := And.intro H5.out.a.cells (And.intro hxl hxi)
            go_upto_region 22 with fail
            as_aux_lemma =>
              refine wp_region_noPanic ?_
              refine wp_region_heldL (S := fun w' => (w'.cell? { block := q1, off := 0 } = some (.slice A1 ks1.length c1) ∧ w'.cell? { block := q1, off := 1 } = some (.int .i64 (neverF [⟨2, n, f⟩]).1) ∧ w'.cell? { block := q1, off := 2 } = some (.bool (neverF [⟨2, n, f⟩]).2)) ∧ (w'.cell? { block := gx, off := 0 } = some (.slice (some ⟨qn, 0, none⟩) M.length cn) ∧ w'.cell? { block := gx, off := 1 } = some (.slice (some ⟨qm, 0, none⟩) M.length cm) ∧ w'.cell? { block := qn, off := l } = some (.int .u64 zn) ∧ w'.cell? { block := qm, off := l } = some (.int .i64 zm)) ∧ (w'.cell? { block := gx, off := 0 } = some (.slice (some ⟨qn, 0, none⟩) M.length cn) ∧ w'.cell? { block := gx, off := 1 } = some (.slice (some ⟨qm, 0, none⟩) M.length cm) ∧ w'.cell? { block := qn, off := i } = some (.int .u64 xn) ∧ w'.cell? { block := qm, off := i } = some (.int .i64 xm))) #[false, false, false, false, false, false, false, false, false, false, false, false, false, false, false, false, false, false, false, false, false, false, false, false, false, false, false, false, false, false, false, false, false, false, false, false, false, false, false, false, false, false, false, false] (by kernel_rfl) 44 (by kernel_rfl) (by kernel_rfl) (by exact hc5) (fun hHeld => ?_)
              have H6 := Lib.hid (H5.out.below (below_drew (Below.refl _ _)))
              clear hc5 H5
              first
                | (refine wpAnyH_takeL 0 #[true, false, false, false, false, false, false, false, false, false, false, false, false, false, false, false, false, false, false, false, false, false, false, false, false, false, false, false, false, false, false, false, false, false, false, false, false, false, false, false, false, false, false, false] (by kernel_rfl) (by kernel_rfl) (by kernel_rfl) (by kernel_rfl) (fun d v c a w h => h) (by assumption) ⟨?_, ?_, ?_, Or.inl ⟨?_, ?_⟩, ?_⟩
                   rotate_left
                   · simp only [List.getElem?_toArray, List.getElem?_cons_zero, List.getElem?_cons_succ]; rfl
                   rotate_left
                   · rfl
                   · intro w hSw; (try dsimp only at hSw); go_simp; try (with_reducible rfl)
                   simp only [Act.put, List.setIfInBounds_toArray, List.set_cons_zero, List.set_cons_succ])
                | (refine wpAnyH_takeL 0 #[true, false, false, false, false, false, false, false, false, false, false, false, false, false, false, false, false, false, false, false, false, false, false, false, false, false, false, false, false, false, false, false, false, false, false, false, false, false, false, false, false, false, false, false] (by kernel_rfl) (by kernel_rfl) (by kernel_rfl) (by kernel_rfl) (fun d v c a w h => h) (by assumption) ⟨?_, ?_, undef, Or.inr ⟨?_, rfl⟩, ?_⟩
                   rotate_left
                   · simp only [List.getElem?_toArray, List.getElem?_cons_zero, List.getElem?_cons_succ]; rfl
                   · rfl
                   simp only [Act.put, List.setIfInBounds_toArray, List.set_cons_zero, List.set_cons_succ])
              first
                | (refine wpAnyH_takeL 1 #[true, true, false, false, false, false, false, false, false, false, false, false, false, false, false, false, false, false, false, false, false, false, false, false, false, false, false, false, false, false, false, false, false, false, false, false, false, false, false, false, false, false, false, false] (by kernel_rfl) (by kernel_rfl) (by kernel_rfl) (by kernel_rfl) (fun d v c a w h => h) (by assumption) ⟨?_, ?_, ?_, Or.inl ⟨?_, ?_⟩, ?_⟩
                   rotate_left
                   · simp only [List.getElem?_toArray, List.getElem?_cons_zero, List.getElem?_cons_succ]; rfl
                   rotate_left
                   · rfl
                   · intro w hSw; (try dsimp only at hSw); go_simp; try (with_reducible rfl)
                   simp only [Act.put, List.setIfInBounds_toArray, List.set_cons_zero, List.set_cons_succ])
                | (refine wpAnyH_takeL 1 #[true, true, false, false, false, false, false, false, false, false, false, false, false, false, false, false, false, false, false, false, false, false, false, false, false, false, false, false, false, false, false, false, false, false, false, false, false, false, false, false, false, false, false, false] (by kernel_rfl) (by kernel_rfl) (by kernel_rfl) (by kernel_rfl) (fun d v c a w h => h) (by assumption) ⟨?_, ?_, undef, Or.inr ⟨?_, rfl⟩, ?_⟩
                   rotate_left
                   · simp only [List.getElem?_toArray, List.getElem?_cons_zero, List.getElem?_cons_succ]; rfl
                   · rfl
                   simp only [Act.put, List.setIfInBounds_toArray, List.set_cons_zero, List.set_cons_succ])
              first
                | (refine wpAnyH_takeL 2 #[true, true, true, false, false, false, false, false, false, false, false, false, false, false, false, false, false, false, false, false, false, false, false, false, false, false, false, false, false, false, false, false, false, false, false, false, false, false, false, false, false, false, false, false] (by kernel_rfl) (by kernel_rfl) (by kernel_rfl) (by kernel_rfl) (fun d v c a w h => h) (by assumption) ⟨?_, ?_, ?_, Or.inl ⟨?_, ?_⟩, ?_⟩
                   rotate_left
                   · simp only [List.getElem?_toArray, List.getElem?_cons_zero, List.getElem?_cons_succ]; rfl
                   rotate_left
                   · rfl
                   · intro w hSw; (try dsimp only at hSw); go_simp; try (with_reducible rfl)
                   simp only [Act.put, List.setIfInBounds_toArray, List.set_cons_zero, List.set_cons_succ])
                | (refine wpAnyH_takeL 2 #[true, true, true, false, false, false, false, false, false, false, false, false, false, false, false, false, false, false, false, false, false, false, false, false, false, false, false, false, false, false, false, false, false, false, false, false, false, false, false, false, false, false, false, false] (by kernel_rfl) (by kernel_rfl) (by kernel_rfl) (by kernel_rfl) (fun d v c a w h => h) (by assumption) ⟨?_, ?_, undef, Or.inr ⟨?_, rfl⟩, ?_⟩
                   rotate_left
                   · simp only [List.getElem?_toArray, List.getElem?_cons_zero, List.getElem?_cons_succ]; rfl
                   · rfl
                   simp only [Act.put, List.setIfInBounds_toArray, List.set_cons_zero, List.set_cons_succ])
              first
                | (refine wpAnyH_takeL 3 #[true, true, true, true, false, false, false, false, false, false, false, false, false, false, false, false, false, false, false, false, false, false, false, false, false, false, false, false, false, false, false, false, false, false, false, false, false, false, false, false, false, false, false, false] (by kernel_rfl) (by kernel_rfl) (by kernel_rfl) (by kernel_rfl) (fun d v c a w h => h) (by assumption) ⟨?_, ?_, ?_, Or.inl ⟨?_, ?_⟩, ?_⟩
                   rotate_left
                   · simp only [List.getElem?_toArray, List.getElem?_cons_zero, List.getElem?_cons_succ]; rfl
                   rotate_left
                   · rfl
                   · intro w hSw; (try dsimp only at hSw); go_simp; try (with_reducible rfl)
                   simp only [Act.put, List.setIfInBounds_toArray, List.set_cons_zero, List.set_cons_succ])
                | (refine wpAnyH_takeL 3 #[true, true, true, true, false, false, false, false, false, false, false, false, false, false, false, false, false, false, false, false, false, false, false, false, false, false, false, false, false, false, false, false, false, false, false, false, false, false, false, false, false, false, false, false] (by kernel_rfl) (by kernel_rfl) (by kernel_rfl) (by kernel_rfl) (fun d v c a w h => h) (by assumption) ⟨?_, ?_, undef, Or.inr ⟨?_, rfl⟩, ?_⟩
                   rotate_left
                   · simp only [List.getElem?_toArray, List.getElem?_cons_zero, List.getElem?_cons_succ]; rfl
                   · rfl
                   simp only [Act.put, List.setIfInBounds_toArray, List.set_cons_zero, List.set_cons_succ])
              first
                | (refine wpAnyH_takeL 4 #[true, true, true, true, true, false, false, false, false, false, false, false, false, false, false, false, false, false, false, false, false, false, false, false, false, false, false, false, false, false, false, false, false, false, false, false, false, false, false, false, false, false, false, false] (by kernel_rfl) (by kernel_rfl) (by kernel_rfl) (by kernel_rfl) (fun d v c a w h => h) (by assumption) ⟨?_, ?_, ?_, Or.inl ⟨?_, ?_⟩, ?_⟩
                   rotate_left
                   · simp only [List.getElem?_toArray, List.getElem?_cons_zero, List.getElem?_cons_succ]; rfl
                   rotate_left
                   · rfl
                   · intro w hSw; (try dsimp only at hSw); go_simp; try (with_reducible rfl)
                   simp only [Act.put, List.setIfInBounds_toArray, List.set_cons_zero, List.set_cons_succ])
                | (refine wpAnyH_takeL 4 #[true, true, true, true, true, false, false, false, false, false, false, false, false, false, false, false, false, false, false, false, false, false, false, false, false, false, false, false, false, false, false, false, false, false, false, false, false, false, false, false, false, false, false, false] (by kernel_rfl) (by kernel_rfl) (by kernel_rfl) (by kernel_rfl) (fun d v c a w h => h) (by assumption) ⟨?_, ?_, undef, Or.inr ⟨?_, rfl⟩, ?_⟩
                   rotate_left
                   · simp only [List.getElem?_toArray, List.getElem?_cons_zero, List.getElem?_cons_succ]; rfl
                   · rfl
                   simp only [Act.put, List.setIfInBounds_toArray, List.set_cons_zero, List.set_cons_succ])
              first
                | (refine wpAnyH_takeL 5 #[true, true, true, true, true, true, false, false, false, false, false, false, false, false, false, false, false, false, false, false, false, false, false, false, false, false, false, false, false, false, false, false, false, false, false, false, false, false, false, false, false, false, false, false] (by kernel_rfl) (by kernel_rfl) (by kernel_rfl) (by kernel_rfl) (fun d v c a w h => h) (by assumption) ⟨?_, ?_, ?_, Or.inl ⟨?_, ?_⟩, ?_⟩
                   rotate_left
                   · simp only [List.getElem?_toArray, List.getElem?_cons_zero, List.getElem?_cons_succ]; rfl
                   rotate_left
                   · rfl
                   · intro w hSw; (try dsimp only at hSw); go_simp; try (with_reducible rfl)
                   simp only [Act.put, List.setIfInBounds_toArray, List.set_cons_zero, List.set_cons_succ])
                | (refine wpAnyH_takeL 5 #[true, true, true, true, true, true, false, false, false, false, false, false, false, false, false, false, false, false, false, false, false, false, false, false, false, false, false, false, false, false, false, false, false, false, false, false, false, false, false, false, false, false, false, false] (by kernel_rfl) (by kernel_rfl) (by kernel_rfl) (by kernel_rfl) (fun d v c a w h => h) (by assumption) ⟨?_, ?_, undef, Or.inr ⟨?_, rfl⟩, ?_⟩
                   rotate_left
                   · simp only [List.getElem?_toArray, List.getElem?_cons_zero, List.getElem?_cons_succ]; rfl
                   · rfl
                   simp only [Act.put, List.setIfInBounds_toArray, List.set_cons_zero, List.set_cons_succ])
              first
                | (refine wpAnyH_takeL 6 #[true, true, true, true, true, true, true, false, false, false, false, false, false, false, false, false, false, false, false, false, false, false, false, false, false, false, false, false, false, false, false, false, false, false, false, false, false, false, false, false, false, false, false, false] (by kernel_rfl) (by kernel_rfl) (by kernel_rfl) (by kernel_rfl) (fun d v c a w h => h) (by assumption) ⟨?_, ?_, ?_, Or.inl ⟨?_, ?_⟩, ?_⟩
                   rotate_left
                   · simp only [List.getElem?_toArray, List.getElem?_cons_zero, List.getElem?_cons_succ]; rfl
                   rotate_left
                   · rfl
                   · intro w hSw; (try dsimp only at hSw); go_simp; try (with_reducible rfl)
                   simp only [Act.put, List.setIfInBounds_toArray, List.set_cons_zero, List.set_cons_succ])
                | (refine wpAnyH_takeL 6 #[true, true, true, true, true, true, true, false, false, false, false, false, false, false, false, false, false, false, false, false, false, false, false, false, false, false, false, false, false, false, false, false, false, false, false, false, false, false, false, false, false, false, false, false] (by kernel_rfl) (by kernel_rfl) (by kernel_rfl) (by kernel_rfl) (fun d v c a w h => h) (by assumption) ⟨?_, ?_, undef, Or.inr ⟨?_, rfl⟩, ?_⟩
                   rotate_left
                   · simp only [List.getElem?_toArray, List.getElem?_cons_zero, List.getElem?_cons_succ]; rfl
                   · rfl
                   simp only [Act.put, List.setIfInBounds_toArray, List.set_cons_zero, List.set_cons_succ])
              as_aux_lemma =>
                first
                  | (refine wpAnyH_takeL 7 #[true, true, true, true, true, true, true, true, false, false, false, false, false, false, false, false, false, false, false, false, false, false, false, false, false, false, false, false, false, false, false, false, false, false, false, false, false, false, false, false, false, false, false, false] (by kernel_rfl) (by kernel_rfl) (by kernel_rfl) (by kernel_rfl) (fun d v c a w h => h) (by assumption) ⟨?_, ?_, ?_, Or.inl ⟨?_, ?_⟩, ?_⟩
                     rotate_left
                     · simp only [List.getElem?_toArray, List.getElem?_cons_zero, List.getElem?_cons_succ]; rfl
                     rotate_left
                     · rfl
                     · intro w hSw; (try dsimp only at hSw); go_simp; try (with_reducible rfl)
                     simp only [Act.put, List.setIfInBounds_toArray, List.set_cons_zero, List.set_cons_succ])
                  | (refine wpAnyH_takeL 7 #[true, true, true, true, true, true, true, true, false, false, false, false, false, false, false, false, false, false, false, false, false, false, false, false, false, false, false, false, false, false, false, false, false, false, false, false, false, false, false, false, false, false, false, false] (by kernel_rfl) (by kernel_rfl) (by kernel_rfl) (by kernel_rfl) (fun d v c a w h => h) (by assumption) ⟨?_, ?_, undef, Or.inr ⟨?_, rfl⟩, ?_⟩
                     rotate_left
                     · simp only [List.getElem?_toArray, List.getElem?_cons_zero, List.getElem?_cons_succ]; rfl
                     · rfl
                     simp only [Act.put, List.setIfInBounds_toArray, List.set_cons_zero, List.set_cons_succ])
                first
                  | (refine wpAnyH_takeL 8 #[true, true, true, true, true, true, true, true, true, false, false, false, false, false, false, false, false, false, false, false, false, false, false, false, false, false, false, false, false, false, false, false, false, false, false, false, false, false, false, false, false, false, false, false] (by kernel_rfl) (by kernel_rfl) (by kernel_rfl) (by kernel_rfl) (fun d v c a w h => h) (by assumption) ⟨?_, ?_, ?_, Or.inl ⟨?_, ?_⟩, ?_⟩
                     rotate_left
                     · simp only [List.getElem?_toArray, List.getElem?_cons_zero, List.getElem?_cons_succ]; rfl
                     rotate_left
                     · rfl
                     · intro w hSw; (try dsimp only at hSw); go_simp; try (with_reducible rfl)
                     simp only [Act.put, List.setIfInBounds_toArray, List.set_cons_zero, List.set_cons_succ])
                  | (refine wpAnyH_takeL 8 #[true, true, true, true, true, true, true, true, true, false, false, false, false, false, false, false, false, false, false, false, false, false, false, false, false, false, false, false, false, false, false, false, false, false, false, false, false, false, false, false, false, false, false, false] (by kernel_rfl) (by kernel_rfl) (by kernel_rfl) (by kernel_rfl) (fun d v c a w h => h) (by assumption) ⟨?_, ?_, undef, Or.inr ⟨?_, rfl⟩, ?_⟩
                     rotate_left
                     · simp only [List.getElem?_toArray, List.getElem?_cons_zero, List.getElem?_cons_succ]; rfl
                     · rfl
                     simp only [Act.put, List.setIfInBounds_toArray, List.set_cons_zero, List.set_cons_succ])
                first
                  | (refine wpAnyH_takeL 9 #[true, true, true, true, true, true, true, true, true, true, false, false, false, false, false, false, false, false, false, false, false, false, false, false, false, false, false, false, false, false, false, false, false, false, false, false, false, false, false, false, false, false, false, false] (by kernel_rfl) (by kernel_rfl) (by kernel_rfl) (by kernel_rfl) (fun d v c a w h => h) (by assumption) ⟨?_, ?_, ?_, Or.inl ⟨?_, ?_⟩, ?_⟩
                     rotate_left
                     · simp only [List.getElem?_toArray, List.getElem?_cons_zero, List.getElem?_cons_succ]; rfl
                     rotate_left
                     · rfl
                     · intro w hSw; (try dsimp only at hSw); go_simp; try (with_reducible rfl)
                     simp only [Act.put, List.setIfInBounds_toArray, List.set_cons_zero, List.set_cons_succ])
                  | (refine wpAnyH_takeL 9 #[true, true, true, true, true, true, true, true, true, true, false, false, false, false, false, false, false, false, false, false, false, false, false, false, false, false, false, false, false, false, false, false, false, false, false, false, false, false, false, false, false, false, false, false] (by kernel_rfl) (by kernel_rfl) (by kernel_rfl) (by kernel_rfl) (fun d v c a w h => h) (by assumption) ⟨?_, ?_, undef, Or.inr ⟨?_, rfl⟩, ?_⟩
                     rotate_left
                     · simp only [List.getElem?_toArray, List.getElem?_cons_zero, List.getElem?_cons_succ]; rfl
                     · rfl
                     simp only [Act.put, List.setIfInBounds_toArray, List.set_cons_zero, List.set_cons_succ])
                first
                  | (refine wpAnyH_takeL 10 #[true, true, true, true, true, true, true, true, true, true, true, false, false, false, false, false, false, false, false, false, false, false, false, false, false, false, false, false, false, false, false, false, false, false, false, false, false, false, false, false, false, false, false, false] (by kernel_rfl) (by kernel_rfl) (by kernel_rfl) (by kernel_rfl) (fun d v c a w h => h) (by assumption) ⟨?_, ?_, ?_, Or.inl ⟨?_, ?_⟩, ?_⟩
                     rotate_left
                     · simp only [List.getElem?_toArray, List.getElem?_cons_zero, List.getElem?_cons_succ]; rfl
                     rotate_left
                     · rfl
                     · intro w hSw; (try dsimp only at hSw); go_simp; try (with_reducible rfl)
                     simp only [Act.put, List.setIfInBounds_toArray, List.set_cons_zero, List.set_cons_succ])
                  | (refine wpAnyH_takeL 10 #[true, true, true, true, true, true, true, true, true, true, true, false, false, false, false, false, false, false, false, false, false, false, false, false, false, false, false, false, false, false, false, false, false, false, false, false, false, false, false, false, false, false, false, false] (by kernel_rfl) (by kernel_rfl) (by kernel_rfl) (by kernel_rfl) (fun d v c a w h => h) (by assumption) ⟨?_, ?_, undef, Or.inr ⟨?_, rfl⟩, ?_⟩
                     rotate_left
                     · simp only [List.getElem?_toArray, List.getElem?_cons_zero, List.getElem?_cons_succ]; rfl
                     · rfl
                     simp only [Act.put, List.setIfInBounds_toArray, List.set_cons_zero, List.set_cons_succ])
                first
                  | (refine wpAnyH_takeL 12 #[true, true, true, true, true, true, true, true, true, true, true, false, true, false, false, false, false, false, false, false, false, false, false, false, false, false, false, false, false, false, false, false, false, false, false, false, false, false, false, false, false, false, false, false] (by kernel_rfl) (by kernel_rfl) (by kernel_rfl) (by kernel_rfl) (fun d v c a w h => h) (by assumption) ⟨?_, ?_, ?_, Or.inl ⟨?_, ?_⟩, ?_⟩
                     rotate_left
                     · simp only [List.getElem?_toArray, List.getElem?_cons_zero, List.getElem?_cons_succ]; rfl
                     rotate_left
                     · rfl
                     · intro w hSw; (try dsimp only at hSw); go_simp; try (with_reducible rfl)
                     simp only [Act.put, List.setIfInBounds_toArray, List.set_cons_zero, List.set_cons_succ])
                  | (refine wpAnyH_takeL 12 #[true, true, true, true, true, true, true, true, true, true, true, false, true, false, false, false, false, false, false, false, false, false, false, false, false, false, false, false, false, false, false, false, false, false, false, false, false, false, false, false, false, false, false, false] (by kernel_rfl) (by kernel_rfl) (by kernel_rfl) (by kernel_rfl) (fun d v c a w h => h) (by assumption) ⟨?_, ?_, undef, Or.inr ⟨?_, rfl⟩, ?_⟩
                     rotate_left
                     · simp only [List.getElem?_toArray, List.getElem?_cons_zero, List.getElem?_cons_succ]; rfl
                     · rfl
                     simp only [Act.put, List.setIfInBounds_toArray, List.set_cons_zero, List.set_cons_succ])
                first
                  | (refine wpAnyH_takeL 13 #[true, true, true, true, true, true, true, true, true, true, true, false, true, true, false, false, false, false, false, false, false, false, false, false, false, false, false, false, false, false, false, false, false, false, false, false, false, false, false, false, false, false, false, false] (by kernel_rfl) (by kernel_rfl) (by kernel_rfl) (by kernel_rfl) (fun d v c a w h => h) (by assumption) ⟨?_, ?_, ?_, Or.inl ⟨?_, ?_⟩, ?_⟩
                     rotate_left
                     · simp only [List.getElem?_toArray, List.getElem?_cons_zero, List.getElem?_cons_succ]; rfl
                     rotate_left
                     · rfl
                     · intro w hSw; (try dsimp only at hSw); go_simp; try (with_reducible rfl)
                     simp only [Act.put, List.setIfInBounds_toArray, List.set_cons_zero, List.set_cons_succ])
                  | (refine wpAnyH_takeL 13 #[true, true, true, true, true, true, true, true, true, true, true, false, true, true, false, false, false, false, false, false, false, false, false, false, false, false, false, false, false, false, false, false, false, false, false, false, false, false, false, false, false, false, false, false] (by kernel_rfl) (by kernel_rfl) (by kernel_rfl) (by kernel_rfl) (fun d v c a w h => h) (by assumption) ⟨?_, ?_, undef, Or.inr ⟨?_, rfl⟩, ?_⟩
                     rotate_left
                     · simp only [List.getElem?_toArray, List.getElem?_cons_zero, List.getElem?_cons_succ]; rfl
                     · rfl
                     simp only [Act.put, List.setIfInBounds_toArray, List.set_cons_zero, List.set_cons_succ])
                first
                  | (refine wpAnyH_takeL 14 #[true, true, true, true, true, true, true, true, true, true, true, false, true, true, true, false, false, false, false, false, false, false, false, false, false, false, false, false, false, false, false, false, false, false, false, false, false, false, false, false, false, false, false, false] (by kernel_rfl) (by kernel_rfl) (by kernel_rfl) (by kernel_rfl) (fun d v c a w h => h) (by assumption) ⟨?_, ?_, ?_, Or.inl ⟨?_, ?_⟩, ?_⟩
                     rotate_left
                     · simp only [List.getElem?_toArray, List.getElem?_cons_zero, List.getElem?_cons_succ]; rfl
                     rotate_left
                     · rfl
                     · intro w hSw; (try dsimp only at hSw); go_simp; try (with_reducible rfl)
                     simp only [Act.put, List.setIfInBounds_toArray, List.set_cons_zero, List.set_cons_succ])
                  | (refine wpAnyH_takeL 14 #[true, true, true, true, true, true, true, true, true, true, true, false, true, true, true, false, false, false, false, false, false, false, false, false, false, false, false, false, false, false, false, false, false, false, false, false, false, false, false, false, false, false, false, false] (by kernel_rfl) (by kernel_rfl) (by kernel_rfl) (by kernel_rfl) (fun d v c a w h => h) (by assumption) ⟨?_, ?_, undef, Or.inr ⟨?_, rfl⟩, ?_⟩
                     rotate_left
                     · simp only [List.getElem?_toArray, List.getElem?_cons_zero, List.getElem?_cons_succ]; rfl
                     · rfl
                     simp only [Act.put, List.setIfInBounds_toArray, List.set_cons_zero, List.set_cons_succ])
                as_aux_lemma =>
                  first
                    | (refine wpAnyH_takeL 15 #[true, true, true, true, true, true, true, true, true, true, true, false, true, true, true, true, false, false, false, false, false, false, false, false, false, false, false, false, false, false, false, false, false, false, false, false, false, false, false, false, false, false, false, false] (by kernel_rfl) (by kernel_rfl) (by kernel_rfl) (by kernel_rfl) (fun d v c a w h => h) (by assumption) ⟨?_, ?_, ?_, Or.inl ⟨?_, ?_⟩, ?_⟩
                       rotate_left
                       · simp only [List.getElem?_toArray, List.getElem?_cons_zero, List.getElem?_cons_succ]; rfl
                       rotate_left
                       · rfl
                       · intro w hSw; (try dsimp only at hSw); go_simp; try (with_reducible rfl)
                       simp only [Act.put, List.setIfInBounds_toArray, List.set_cons_zero, List.set_cons_succ])
                    | (refine wpAnyH_takeL 15 #[true, true, true, true, true, true, true, true, true, true, true, false, true, true, true, true, false, false, false, false, false, false, false, false, false, false, false, false, false, false, false, false, false, false, false, false, false, false, false, false, false, false, false, false] (by kernel_rfl) (by kernel_rfl) (by kernel_rfl) (by kernel_rfl) (fun d v c a w h => h) (by assumption) ⟨?_, ?_, undef, Or.inr ⟨?_, rfl⟩, ?_⟩
                       rotate_left
                       · simp only [List.getElem?_toArray, List.getElem?_cons_zero, List.getElem?_cons_succ]; rfl
                       · rfl
                       simp only [Act.put, List.setIfInBounds_toArray, List.set_cons_zero, List.set_cons_succ])
                  first
                    | (refine wpAnyH_takeL 16 #[true, true, true, true, true, true, true, true, true, true, true, false, true, true, true, true, true, false, false, false, false, false, false, false, false, false, false, false, false, false, false, false, false, false, false, false, false, false, false, false, false, false, false, false] (by kernel_rfl) (by kernel_rfl) (by kernel_rfl) (by kernel_rfl) (fun d v c a w h => h) (by assumption) ⟨?_, ?_, ?_, Or.inl ⟨?_, ?_⟩, ?_⟩
                       rotate_left
                       · simp only [List.getElem?_toArray, List.getElem?_cons_zero, List.getElem?_cons_succ]; rfl
                       rotate_left
                       · rfl
                       · intro w hSw; (try dsimp only at hSw); go_simp; try (with_reducible rfl)
                       simp only [Act.put, List.setIfInBounds_toArray, List.set_cons_zero, List.set_cons_succ])
                    | (refine wpAnyH_takeL 16 #[true, true, true, true, true, true, true, true, true, true, true, false, true, true, true, true, true, false, false, false, false, false, false, false, false, false, false, false, false, false, false, false, false, false, false, false, false, false, false, false, false, false, false, false] (by kernel_rfl) (by kernel_rfl) (by kernel_rfl) (by kernel_rfl) (fun d v c a w h => h) (by assumption) ⟨?_, ?_, undef, Or.inr ⟨?_, rfl⟩, ?_⟩
                       rotate_left
                       · simp only [List.getElem?_toArray, List.getElem?_cons_zero, List.getElem?_cons_succ]; rfl
                       · rfl
                       simp only [Act.put, List.setIfInBounds_toArray, List.set_cons_zero, List.set_cons_succ])
                  first
                    | (refine wpAnyH_takeL 17 #[true, true, true, true, true, true, true, true, true, true, true, false, true, true, true, true, true, true, false, false, false, false, false, false, false, false, false, false, false, false, false, false, false, false, false, false, false, false, false, false, false, false, false, false] (by kernel_rfl) (by kernel_rfl) (by kernel_rfl) (by kernel_rfl) (fun d v c a w h => h) (by assumption) ⟨?_, ?_, ?_, Or.inl ⟨?_, ?_⟩, ?_⟩
                       rotate_left
                       · simp only [List.getElem?_toArray, List.getElem?_cons_zero, List.getElem?_cons_succ]; rfl
                       rotate_left
                       · rfl
                       · intro w hSw; (try dsimp only at hSw); go_simp; try (with_reducible rfl)
                       simp only [Act.put, List.setIfInBounds_toArray, List.set_cons_zero, List.set_cons_succ])
                    | (refine wpAnyH_takeL 17 #[true, true, true, true, true, true, true, true, true, true, true, false, true, true, true, true, true, true, false, false, false, false, false, false, false, false, false, false, false, false, false, false, false, false, false, false, false, false, false, false, false, false, false, false] (by kernel_rfl) (by kernel_rfl) (by kernel_rfl) (by kernel_rfl) (fun d v c a w h => h) (by assumption) ⟨?_, ?_, undef, Or.inr ⟨?_, rfl⟩, ?_⟩
                       rotate_left
                       · simp only [List.getElem?_toArray, List.getElem?_cons_zero, List.getElem?_cons_succ]; rfl
                       · rfl
                       simp only [Act.put, List.setIfInBounds_toArray, List.set_cons_zero, List.set_cons_succ])
                  first
                    | (refine wpAnyH_takeL 18 #[true, true, true, true, true, true, true, true, true, true, true, false, true, true, true, true, true, true, true, false, false, false, false, false, false, false, false, false, false, false, false, false, false, false, false, false, false, false, false, false, false, false, false, false] (by kernel_rfl) (by kernel_rfl) (by kernel_rfl) (by kernel_rfl) (fun d v c a w h => h) (by assumption) ⟨?_, ?_, ?_, Or.inl ⟨?_, ?_⟩, ?_⟩
                       rotate_left
                       · simp only [List.getElem?_toArray, List.getElem?_cons_zero, List.getElem?_cons_succ]; rfl
                       rotate_left
                       · rfl
                       · intro w hSw; (try dsimp only at hSw); go_simp; try (with_reducible rfl)
                       simp only [Act.put, List.setIfInBounds_toArray, List.set_cons_zero, List.set_cons_succ])
                    | (refine wpAnyH_takeL 18 #[true, true, true, true, true, true, true, true, true, true, true, false, true, true, true, true, true, true, true, false, false, false, false, false, false, false, false, false, false, false, false, false, false, false, false, false, false, false, false, false, false, false, false, false] (by kernel_rfl) (by kernel_rfl) (by kernel_rfl) (by kernel_rfl) (fun d v c a w h => h) (by assumption) ⟨?_, ?_, undef, Or.inr ⟨?_, rfl⟩, ?_⟩
                       rotate_left
                       · simp only [List.getElem?_toArray, List.getElem?_cons_zero, List.getElem?_cons_succ]; rfl
                       · rfl
                       simp only [Act.put, List.setIfInBounds_toArray, List.set_cons_zero, List.set_cons_succ])
                  first
                    | (refine wpAnyH_takeL 19 #[true, true, true, true, true, true, true, true, true, true, true, false, true, true, true, true, true, true, true, true, false, false, false, false, false, false, false, false, false, false, false, false, false, false, false, false, false, false, false, false, false, false, false, false] (by kernel_rfl) (by kernel_rfl) (by kernel_rfl) (by kernel_rfl) (fun d v c a w h => h) (by assumption) ⟨?_, ?_, ?_, Or.inl ⟨?_, ?_⟩, ?_⟩
                       rotate_left
                       · simp only [List.getElem?_toArray, List.getElem?_cons_zero, List.getElem?_cons_succ]; rfl
                       rotate_left
                       · rfl
                       · intro w hSw; (try dsimp only at hSw); go_simp; try (with_reducible rfl)
                       simp only [Act.put, List.setIfInBounds_toArray, List.set_cons_zero, List.set_cons_succ])
                    | (refine wpAnyH_takeL 19 #[true, true, true, true, true, true, true, true, true, true, true, false, true, true, true, true, true, true, true, true, false, false, false, false, false, false, false, false, false, false, false, false, false, false, false, false, false, false, false, false, false, false, false, false] (by kernel_rfl) (by kernel_rfl) (by kernel_rfl) (by kernel_rfl) (fun d v c a w h => h) (by assumption) ⟨?_, ?_, undef, Or.inr ⟨?_, rfl⟩, ?_⟩
                       rotate_left
                       · simp only [List.getElem?_toArray, List.getElem?_cons_zero, List.getElem?_cons_succ]; rfl
                       · rfl
                       simp only [Act.put, List.setIfInBounds_toArray, List.set_cons_zero, List.set_cons_succ])
                  first
                    | (refine wpAnyH_takeL 20 #[true, true, true, true, true, true, true, true, true, true, true, false, true, true, true, true, true, true, true, true, true, false, false, false, false, false, false, false, false, false, false, false, false, false, false, false, false, false, false, false, false, false, false, false] (by kernel_rfl) (by kernel_rfl) (by kernel_rfl) (by kernel_rfl) (fun d v c a w h => h) (by assumption) ⟨?_, ?_, ?_, Or.inl ⟨?_, ?_⟩, ?_⟩
                       rotate_left
                       · simp only [List.getElem?_toArray, List.getElem?_cons_zero, List.getElem?_cons_succ]; rfl
                       rotate_left
                       · rfl
                       · intro w hSw; (try dsimp only at hSw); go_simp; try (with_reducible rfl)
                       simp only [Act.put, List.setIfInBounds_toArray, List.set_cons_zero, List.set_cons_succ])
                    | (refine wpAnyH_takeL 20 #[true, true, true, true, true, true, true, true, true, true, true, false, true, true, true, true, true, true, true, true, true, false, false, false, false, false, false, false, false, false, false, false, false, false, false, false, false, false, false, false, false, false, false, false] (by kernel_rfl) (by kernel_rfl) (by kernel_rfl) (by kernel_rfl) (fun d v c a w h => h) (by assumption) ⟨?_, ?_, undef, Or.inr ⟨?_, rfl⟩, ?_⟩
                       rotate_left
                       · simp only [List.getElem?_toArray, List.getElem?_cons_zero, List.getElem?_cons_succ]; rfl
                       · rfl
                       simp only [Act.put, List.setIfInBounds_toArray, List.set_cons_zero, List.set_cons_succ])
                  first
                    | (refine wpAnyH_takeL 21 #[true, true, true, true, true, true, true, true, true, true, true, false, true, true, true, true, true, true, true, true, true, true, false, false, false, false, false, false, false, false, false, false, false, false, false, false, false, false, false, false, false, false, false, false] (by kernel_rfl) (by kernel_rfl) (by kernel_rfl) (by kernel_rfl) (fun d v c a w h => h) (by assumption) ⟨?_, ?_, ?_, Or.inl ⟨?_, ?_⟩, ?_⟩
                       rotate_left
                       · simp only [List.getElem?_toArray, List.getElem?_cons_zero, List.getElem?_cons_succ]; rfl
                       rotate_left
                       · rfl
                       · intro w hSw; (try dsimp only at hSw); go_simp; try (with_reducible rfl)
                       simp only [Act.put, List.setIfInBounds_toArray, List.set_cons_zero, List.set_cons_succ])
                    | (refine wpAnyH_takeL 21 #[true, true, true, true, true, true, true, true, true, true, true, false, true, true, true, true, true, true, true, true, true, true, false, false, false, false, false, false, false, false, false, false, false, false, false, false, false, false, false, false, false, false, false, false] (by kernel_rfl) (by kernel_rfl) (by kernel_rfl) (by kernel_rfl) (fun d v c a w h => h) (by assumption) ⟨?_, ?_, undef, Or.inr ⟨?_, rfl⟩, ?_⟩
                       rotate_left
                       · simp only [List.getElem?_toArray, List.getElem?_cons_zero, List.getElem?_cons_succ]; rfl
                       · rfl
                       simp only [Act.put, List.setIfInBounds_toArray, List.set_cons_zero, List.set_cons_succ])
                  as_aux_lemma =>
                    first
                      | (refine wpAnyH_takeL 22 #[true, true, true, true, true, true, true, true, true, true, true, false, true, true, true, true, true, true, true, true, true, true, true, false, false, false, false, false, false, false, false, false, false, false, false, false, false, false, false, false, false, false, false, false] (by kernel_rfl) (by kernel_rfl) (by kernel_rfl) (by kernel_rfl) (fun d v c a w h => h) (by assumption) ⟨?_, ?_, ?_, Or.inl ⟨?_, ?_⟩, ?_⟩
                         rotate_left
                         · simp only [List.getElem?_toArray, List.getElem?_cons_zero, List.getElem?_cons_succ]; rfl
                         rotate_left
                         · rfl
                         · intro w hSw; (try dsimp only at hSw); go_simp; try (with_reducible rfl)
                         simp only [Act.put, List.setIfInBounds_toArray, List.set_cons_zero, List.set_cons_succ])
                      | (refine wpAnyH_takeL 22 #[true, true, true, true, true, true, true, true, true, true, true, false, true, true, true, true, true, true, true, true, true, true, true, false, false, false, false, false, false, false, false, false, false, false, false, false, false, false, false, false, false, false, false, false] (by kernel_rfl) (by kernel_rfl) (by kernel_rfl) (by kernel_rfl) (fun d v c a w h => h) (by assumption) ⟨?_, ?_, undef, Or.inr ⟨?_, rfl⟩, ?_⟩
                         rotate_left
                         · simp only [List.getElem?_toArray, List.getElem?_cons_zero, List.getElem?_cons_succ]; rfl
                         · rfl
                         simp only [Act.put, List.setIfInBounds_toArray, List.set_cons_zero, List.set_cons_succ])
                    first
                      | (refine wpAnyH_takeL 23 #[true, true, true, true, true, true, true, true, true, true, true, false, true, true, true, true, true, true, true, true, true, true, true, true, false, false, false, false, false, false, false, false, false, false, false, false, false, false, false, false, false, false, false, false] (by kernel_rfl) (by kernel_rfl) (by kernel_rfl) (by kernel_rfl) (fun d v c a w h => h) (by assumption) ⟨?_, ?_, ?_, Or.inl ⟨?_, ?_⟩, ?_⟩
                         rotate_left
                         · simp only [List.getElem?_toArray, List.getElem?_cons_zero, List.getElem?_cons_succ]; rfl
                         rotate_left
                         · rfl
                         · intro w hSw; (try dsimp only at hSw); go_simp; try (with_reducible rfl)
                         simp only [Act.put, List.setIfInBounds_toArray, List.set_cons_zero, List.set_cons_succ])
                      | (refine wpAnyH_takeL 23 #[true, true, true, true, true, true, true, true, true, true, true, false, true, true, true, true, true, true, true, true, true, true, true, true, false, false, false, false, false, false, false, false, false, false, false, false, false, false, false, false, false, false, false, false] (by kernel_rfl) (by kernel_rfl) (by kernel_rfl) (by kernel_rfl) (fun d v c a w h => h) (by assumption) ⟨?_, ?_, undef, Or.inr ⟨?_, rfl⟩, ?_⟩
                         rotate_left
                         · simp only [List.getElem?_toArray, List.getElem?_cons_zero, List.getElem?_cons_succ]; rfl
                         · rfl
                         simp only [Act.put, List.setIfInBounds_toArray, List.set_cons_zero, List.set_cons_succ])
                    refine wpAnyH_oneL 11 #[true, true, true, true, true, true, true, true, true, true, true, true, true, true, true, true, true, true, true, true, true, true, true, true, false, false, false, false, false, false, false, false, false, false, false, false, false, false, false, false, false, false, false, false] (by kernel_rfl) (by kernel_rfl) ⟨?_, ?_, fun K hK => ?_⟩
                    rotate_left
                    · simp only [List.getElem?_toArray, List.getElem?_cons_zero, List.getElem?_cons_succ]; rfl
                    rw [if_pos (by rfl)]
                    go_simp
                    go_at_call 23; (with_reducible refine (S1.out _ H6.out.a).mono ?_); rintro e w6 ⟨rfl, hb6⟩; replace H6 := Lib.hid (H6.out.below hb6); clear hb6
                    clear hHeld
                    refine hK.out _ _ (And.intro H6.out.a.cells (And.intro (HXL.out _ H6.out.x) (HX.out _ H6.out.x))) (fun hHeld => ?_)
                    clear hK K
                    try simp only [Act.put, List.setIfInBounds_toArray, List.set_cons_zero, List.set_cons_succ]
                    first
                      | (refine wpAnyH_takeL 24 #[true, true, true, true, true, true, true, true, true, true, true, true, true, true, true, true, true, true, true, true, true, true, true, true, true, false, false, false, false, false, false, false, false, false, false, false, false, false, false, false, false, false, false, false] (by kernel_rfl) (by kernel_rfl) (by kernel_rfl) (by kernel_rfl) (fun d v c a w h => h) (by assumption) ⟨?_, ?_, ?_, Or.inl ⟨?_, ?_⟩, ?_⟩
                         rotate_left
                         · simp only [List.getElem?_toArray, List.getElem?_cons_zero, List.getElem?_cons_succ]; rfl
                         rotate_left
                         · rfl
                         · intro w hSw; (try dsimp only at hSw); go_simp; try (with_reducible rfl)
                         simp only [Act.put, List.setIfInBounds_toArray, List.set_cons_zero, List.set_cons_succ])
                      | (refine wpAnyH_takeL 24 #[true, true, true, true, true, true, true, true, true, true, true, true, true, true, true, true, true, true, true, true, true, true, true, true, true, false, false, false, false, false, false, false, false, false, false, false, false, false, false, false, false, false, false, false] (by kernel_rfl) (by kernel_rfl) (by kernel_rfl) (by kernel_rfl) (fun d v c a w h => h) (by assumption) ⟨?_, ?_, undef, Or.inr ⟨?_, rfl⟩, ?_⟩
                         rotate_left
                         · simp only [List.getElem?_toArray, List.getElem?_cons_zero, List.getElem?_cons_succ]; rfl
                         · rfl
                         simp only [Act.put, List.setIfInBounds_toArray, List.set_cons_zero, List.set_cons_succ])
                    first
                      | (refine wpAnyH_takeL 25 #[true, true, true, true, true, true, true, true, true, true, true, true, true, true, true, true, true, true, true, true, true, true, true, true, true, true, false, false, false, false, false, false, false, false, false, false, false, false, false, false, false, false, false, false] (by kernel_rfl) (by kernel_rfl) (by kernel_rfl) (by kernel_rfl) (fun d v c a w h => h) (by assumption) ⟨?_, ?_, ?_, Or.inl ⟨?_, ?_⟩, ?_⟩
                         rotate_left
                         · simp only [List.getElem?_toArray, List.getElem?_cons_zero, List.getElem?_cons_succ]; rfl
                         rotate_left
                         · rfl
                         · intro w hSw; (try dsimp only at hSw); go_simp; try (with_reducible rfl)
                         simp only [Act.put, List.setIfInBounds_toArray, List.set_cons_zero, List.set_cons_succ])
                      | (refine wpAnyH_takeL 25 #[true, true, true, true, true, true, true, true, true, true, true, true, true, true, true, true, true, true, true, true, true, true, true, true, true, true, false, false, false, false, false, false, false, false, false, false, false, false, false, false, false, false, false, false] (by kernel_rfl) (by kernel_rfl) (by kernel_rfl) (by kernel_rfl) (fun d v c a w h => h) (by assumption) ⟨?_, ?_, undef, Or.inr ⟨?_, rfl⟩, ?_⟩
                         rotate_left
                         · simp only [List.getElem?_toArray, List.getElem?_cons_zero, List.getElem?_cons_succ]; rfl
                         · rfl
                         simp only [Act.put, List.setIfInBounds_toArray, List.set_cons_zero, List.set_cons_succ])
                    first
                      | (refine wpAnyH_takeL 26 #[true, true, true, true, true, true, true, true, true, true, true, true, true, true, true, true, true, true, true, true, true, true, true, true, true, true, true, false, false, false, false, false, false, false, false, false, false, false, false, false, false, false, false, false] (by kernel_rfl) (by kernel_rfl) (by kernel_rfl) (by kernel_rfl) (fun d v c a w h => h) (by assumption) ⟨?_, ?_, ?_, Or.inl ⟨?_, ?_⟩, ?_⟩
                         rotate_left
                         · simp only [List.getElem?_toArray, List.getElem?_cons_zero, List.getElem?_cons_succ]; rfl
                         rotate_left
                         · rfl
                         · intro w hSw; (try dsimp only at hSw); go_simp; try (with_reducible rfl)
                         simp only [Act.put, List.setIfInBounds_toArray, List.set_cons_zero, List.set_cons_succ])
                      | (refine wpAnyH_takeL 26 #[true, true, true, true, true, true, true, true, true, true, true, true, true, true, true, true, true, true, true, true, true, true, true, true, true, true, true, false, false, false, false, false, false, false, false, false, false, false, false, false, false, false, false, false] (by kernel_rfl) (by kernel_rfl) (by kernel_rfl) (by kernel_rfl) (fun d v c a w h => h) (by assumption) ⟨?_, ?_, undef, Or.inr ⟨?_, rfl⟩, ?_⟩
                         rotate_left
                         · simp only [List.getElem?_toArray, List.getElem?_cons_zero, List.getElem?_cons_succ]; rfl
                         · rfl
                         simp only [Act.put, List.setIfInBounds_toArray, List.set_cons_zero, List.set_cons_succ])
                    first
                      | (refine wpAnyH_takeL 27 #[true, true, true, true, true, true, true, true, true, true, true, true, true, true, true, true, true, true, true, true, true, true, true, true, true, true, true, true, false, false, false, false, false, false, false, false, false, false, false, false, false, false, false, false] (by kernel_rfl) (by kernel_rfl) (by kernel_rfl) (by kernel_rfl) (fun d v c a w h => h) (by assumption) ⟨?_, ?_, ?_, Or.inl ⟨?_, ?_⟩, ?_⟩
                         rotate_left
                         · simp only [List.getElem?_toArray, List.getElem?_cons_zero, List.getElem?_cons_succ]; rfl
                         rotate_left
                         · rfl
                         · intro w hSw; (try dsimp only at hSw); go_simp; try (with_reducible rfl)
                         simp only [Act.put, List.setIfInBounds_toArray, List.set_cons_zero, List.set_cons_succ])
                      | (refine wpAnyH_takeL 27 #[true, true, true, true, true, true, true, true, true, true, true, true, true, true, true, true, true, true, true, true, true, true, true, true, true, true, true, true, false, false, false, false, false, false, false, false, false, false, false, false, false, false, false, false] (by kernel_rfl) (by kernel_rfl) (by kernel_rfl) (by kernel_rfl) (fun d v c a w h => h) (by assumption) ⟨?_, ?_, undef, Or.inr ⟨?_, rfl⟩, ?_⟩
                         rotate_left
                         · simp only [List.getElem?_toArray, List.getElem?_cons_zero, List.getElem?_cons_succ]; rfl
                         · rfl
                         simp only [Act.put, List.setIfInBounds_toArray, List.set_cons_zero, List.set_cons_succ])
                    as_aux_lemma =>
                      first
                        | (refine wpAnyH_takeL 28 #[true, true, true, true, true, true, true, true, true, true, true, true, true, true, true, true, true, true, true, true, true, true, true, true, true, true, true, true, true, false, false, false, false, false, false, false, false, false, false, false, false, false, false, false] (by kernel_rfl) (by kernel_rfl) (by kernel_rfl) (by kernel_rfl) (fun d v c a w h => h) (by assumption) ⟨?_, ?_, ?_, Or.inl ⟨?_, ?_⟩, ?_⟩
                           rotate_left
                           · simp only [List.getElem?_toArray, List.getElem?_cons_zero, List.getElem?_cons_succ]; rfl
                           rotate_left
                           · rfl
                           · intro w hSw; (try dsimp only at hSw); go_simp; try (with_reducible rfl)
                           simp only [Act.put, List.setIfInBounds_toArray, List.set_cons_zero, List.set_cons_succ])
                        | (refine wpAnyH_takeL 28 #[true, true, true, true, true, true, true, true, true, true, true, true, true, true, true, true, true, true, true, true, true, true, true, true, true, true, true, true, true, false, false, false, false, false, false, false, false, false, false, false, false, false, false, false] (by kernel_rfl) (by kernel_rfl) (by kernel_rfl) (by kernel_rfl) (fun d v c a w h => h) (by assumption) ⟨?_, ?_, undef, Or.inr ⟨?_, rfl⟩, ?_⟩
                           rotate_left
                           · simp only [List.getElem?_toArray, List.getElem?_cons_zero, List.getElem?_cons_succ]; rfl
                           · rfl
                           simp only [Act.put, List.setIfInBounds_toArray, List.set_cons_zero, List.set_cons_succ])
                      first
                        | (refine wpAnyH_takeL 29 #[true, true, true, true, true, true, true, true, true, true, true, true, true, true, true, true, true, true, true, true, true, true, true, true, true, true, true, true, true, true, false, false, false, false, false, false, false, false, false, false, false, false, false, false] (by kernel_rfl) (by kernel_rfl) (by kernel_rfl) (by kernel_rfl) (fun d v c a w h => h) (by assumption) ⟨?_, ?_, ?_, Or.inl ⟨?_, ?_⟩, ?_⟩
                           rotate_left
                           · simp only [List.getElem?_toArray, List.getElem?_cons_zero, List.getElem?_cons_succ]; rfl
                           rotate_left
                           · rfl
                           · intro w hSw; (try dsimp only at hSw); go_simp; try (with_reducible rfl)
                           simp only [Act.put, List.setIfInBounds_toArray, List.set_cons_zero, List.set_cons_succ])
                        | (refine wpAnyH_takeL 29 #[true, true, true, true, true, true, true, true, true, true, true, true, true, true, true, true, true, true, true, true, true, true, true, true, true, true, true, true, true, true, false, false, false, false, false, false, false, false, false, false, false, false, false, false] (by kernel_rfl) (by kernel_rfl) (by kernel_rfl) (by kernel_rfl) (fun d v c a w h => h) (by assumption) ⟨?_, ?_, undef, Or.inr ⟨?_, rfl⟩, ?_⟩
                           rotate_left
                           · simp only [List.getElem?_toArray, List.getElem?_cons_zero, List.getElem?_cons_succ]; rfl
                           · rfl
                           simp only [Act.put, List.setIfInBounds_toArray, List.set_cons_zero, List.set_cons_succ])
                      first
                        | (refine wpAnyH_takeL 30 #[true, true, true, true, true, true, true, true, true, true, true, true, true, true, true, true, true, true, true, true, true, true, true, true, true, true, true, true, true, true, true, false, false, false, false, false, false, false, false, false, false, false, false, false] (by kernel_rfl) (by kernel_rfl) (by kernel_rfl) (by kernel_rfl) (fun d v c a w h => h) (by assumption) ⟨?_, ?_, ?_, Or.inl ⟨?_, ?_⟩, ?_⟩
                           rotate_left
                           · simp only [List.getElem?_toArray, List.getElem?_cons_zero, List.getElem?_cons_succ]; rfl
                           rotate_left
                           · rfl
                           · intro w hSw; (try dsimp only at hSw); go_simp; try (with_reducible rfl)
                           simp only [Act.put, List.setIfInBounds_toArray, List.set_cons_zero, List.set_cons_succ])
                        | (refine wpAnyH_takeL 30 #[true, true, true, true, true, true, true, true, true, true, true, true, true, true, true, true, true, true, true, true, true, true, true, true, true, true, true, true, true, true, true, false, false, false, false, false, false, false, false, false, false, false, false, false] (by kernel_rfl) (by kernel_rfl) (by kernel_rfl) (by kernel_rfl) (fun d v c a w h => h) (by assumption) ⟨?_, ?_, undef, Or.inr ⟨?_, rfl⟩, ?_⟩
                           rotate_left
                           · simp only [List.getElem?_toArray, List.getElem?_cons_zero, List.getElem?_cons_succ]; rfl
                           · rfl
                           simp only [Act.put, List.setIfInBounds_toArray, List.set_cons_zero, List.set_cons_succ])
                      first
                        | (refine wpAnyH_takeL 31 #[true, true, true, true, true, true, true, true, true, true, true, true, true, true, true, true, true, true, true, true, true, true, true, true, true, true, true, true, true, true, true, true, false, false, false, false, false, false, false, false, false, false, false, false] (by kernel_rfl) (by kernel_rfl) (by kernel_rfl) (by kernel_rfl) (fun d v c a w h => h) (by assumption) ⟨?_, ?_, ?_, Or.inl ⟨?_, ?_⟩, ?_⟩
                           rotate_left
                           · simp only [List.getElem?_toArray, List.getElem?_cons_zero, List.getElem?_cons_succ]; rfl
                           rotate_left
                           · rfl
                           · intro w hSw; (try dsimp only at hSw); go_simp; try (with_reducible rfl)
                           simp only [Act.put, List.setIfInBounds_toArray, List.set_cons_zero, List.set_cons_succ])
                        | (refine wpAnyH_takeL 31 #[true, true, true, true, true, true, true, true, true, true, true, true, true, true, true, true, true, true, true, true, true, true, true, true, true, true, true, true, true, true, true, true, false, false, false, false, false, false, false, false, false, false, false, false] (by kernel_rfl) (by kernel_rfl) (by kernel_rfl) (by kernel_rfl) (fun d v c a w h => h) (by assumption) ⟨?_, ?_, undef, Or.inr ⟨?_, rfl⟩, ?_⟩
                           rotate_left
                           · simp only [List.getElem?_toArray, List.getElem?_cons_zero, List.getElem?_cons_succ]; rfl
                           · rfl
                           simp only [Act.put, List.setIfInBounds_toArray, List.set_cons_zero, List.set_cons_succ])
                      first
                        | (refine wpAnyH_takeL 32 #[true, true, true, true, true, true, true, true, true, true, true, true, true, true, true, true, true, true, true, true, true, true, true, true, true, true, true, true, true, true, true, true, true, false, false, false, false, false, false, false, false, false, false, false] (by kernel_rfl) (by kernel_rfl) (by kernel_rfl) (by kernel_rfl) (fun d v c a w h => h) (by assumption) ⟨?_, ?_, ?_, Or.inl ⟨?_, ?_⟩, ?_⟩
                           rotate_left
                           · simp only [List.getElem?_toArray, List.getElem?_cons_zero, List.getElem?_cons_succ]; rfl
                           rotate_left
                           · rfl
                           · intro w hSw; (try dsimp only at hSw); go_simp; try (with_reducible rfl)
                           simp only [Act.put, List.setIfInBounds_toArray, List.set_cons_zero, List.set_cons_succ])
                        | (refine wpAnyH_takeL 32 #[true, true, true, true, true, true, true, true, true, true, true, true, true, true, true, true, true, true, true, true, true, true, true, true, true, true, true, true, true, true, true, true, true, false, false, false, false, false, false, false, false, false, false, false] (by kernel_rfl) (by kernel_rfl) (by kernel_rfl) (by kernel_rfl) (fun d v c a w h => h) (by assumption) ⟨?_, ?_, undef, Or.inr ⟨?_, rfl⟩, ?_⟩
                           rotate_left
                           · simp only [List.getElem?_toArray, List.getElem?_cons_zero, List.getElem?_cons_succ]; rfl
                           · rfl
                           simp only [Act.put, List.setIfInBounds_toArray, List.set_cons_zero, List.set_cons_succ])
                      first
                        | (refine wpAnyH_takeL 33 #[true, true, true, true, true, true, true, true, true, true, true, true, true, true, true, true, true, true, true, true, true, true, true, true, true, true, true, true, true, true, true, true, true, true, false, false, false, false, false, false, false, false, false, false] (by kernel_rfl) (by kernel_rfl) (by kernel_rfl) (by kernel_rfl) (fun d v c a w h => h) (by assumption) ⟨?_, ?_, ?_, Or.inl ⟨?_, ?_⟩, ?_⟩
                           rotate_left
                           · simp only [List.getElem?_toArray, List.getElem?_cons_zero, List.getElem?_cons_succ]; rfl
                           rotate_left
                           · rfl
                           · intro w hSw; (try dsimp only at hSw); go_simp; try (with_reducible rfl)
                           simp only [Act.put, List.setIfInBounds_toArray, List.set_cons_zero, List.set_cons_succ])
                        | (refine wpAnyH_takeL 33 #[true, true, true, true, true, true, true, true, true, true, true, true, true, true, true, true, true, true, true, true, true, true, true, true, true, true, true, true, true, true, true, true, true, true, false, false, false, false, false, false, false, false, false, false] (by kernel_rfl) (by kernel_rfl) (by kernel_rfl) (by kernel_rfl) (fun d v c a w h => h) (by assumption) ⟨?_, ?_, undef, Or.inr ⟨?_, rfl⟩, ?_⟩
                           rotate_left
                           · simp only [List.getElem?_toArray, List.getElem?_cons_zero, List.getElem?_cons_succ]; rfl
                           · rfl
                           simp only [Act.put, List.setIfInBounds_toArray, List.set_cons_zero, List.set_cons_succ])
                      first
                        | (refine wpAnyH_takeL 34 #[true, true, true, true, true, true, true, true, true, true, true, true, true, true, true, true, true, true, true, true, true, true, true, true, true, true, true, true, true, true, true, true, true, true, true, false, false, false, false, false, false, false, false, false] (by kernel_rfl) (by kernel_rfl) (by kernel_rfl) (by kernel_rfl) (fun d v c a w h => h) (by assumption) ⟨?_, ?_, ?_, Or.inl ⟨?_, ?_⟩, ?_⟩
                           rotate_left
                           · simp only [List.getElem?_toArray, List.getElem?_cons_zero, List.getElem?_cons_succ]; rfl
                           rotate_left
                           · rfl
                           · intro w hSw; (try dsimp only at hSw); go_simp; try (with_reducible rfl)
                           simp only [Act.put, List.setIfInBounds_toArray, List.set_cons_zero, List.set_cons_succ])
                        | (refine wpAnyH_takeL 34 #[true, true, true, true, true, true, true, true, true, true, true, true, true, true, true, true, true, true, true, true, true, true, true, true, true, true, true, true, true, true, true, true, true, true, true, false, false, false, false, false, false, false, false, false] (by kernel_rfl) (by kernel_rfl) (by kernel_rfl) (by kernel_rfl) (fun d v c a w h => h) (by assumption) ⟨?_, ?_, undef, Or.inr ⟨?_, rfl⟩, ?_⟩
                           rotate_left
                           · simp only [List.getElem?_toArray, List.getElem?_cons_zero, List.getElem?_cons_succ]; rfl
                           · rfl
                           simp only [Act.put, List.setIfInBounds_toArray, List.set_cons_zero, List.set_cons_succ])
                      as_aux_lemma =>
                        first
                          | (refine wpAnyH_takeL 35 #[true, true, true, true, true, true, true, true, true, true, true, true, true, true, true, true, true, true, true, true, true, true, true, true, true, true, true, true, true, true, true, true, true, true, true, true, false, false, false, false, false, false, false, false] (by kernel_rfl) (by kernel_rfl) (by kernel_rfl) (by kernel_rfl) (fun d v c a w h => h) (by assumption) ⟨?_, ?_, ?_, Or.inl ⟨?_, ?_⟩, ?_⟩
                             rotate_left
                             · simp only [List.getElem?_toArray, List.getElem?_cons_zero, List.getElem?_cons_succ]; rfl
                             rotate_left
                             · rfl
                             · intro w hSw; (try dsimp only at hSw); go_simp; try (with_reducible rfl)
                             simp only [Act.put, List.setIfInBounds_toArray, List.set_cons_zero, List.set_cons_succ])
                          | (refine wpAnyH_takeL 35 #[true, true, true, true, true, true, true, true, true, true, true, true, true, true, true, true, true, true, true, true, true, true, true, true, true, true, true, true, true, true, true, true, true, true, true, true, false, false, false, false, false, false, false, false] (by kernel_rfl) (by kernel_rfl) (by kernel_rfl) (by kernel_rfl) (fun d v c a w h => h) (by assumption) ⟨?_, ?_, undef, Or.inr ⟨?_, rfl⟩, ?_⟩
                             rotate_left
                             · simp only [List.getElem?_toArray, List.getElem?_cons_zero, List.getElem?_cons_succ]; rfl
                             · rfl
                             simp only [Act.put, List.setIfInBounds_toArray, List.set_cons_zero, List.set_cons_succ])
                        first
                          | (refine wpAnyH_takeL 36 #[true, true, true, true, true, true, true, true, true, true, true, true, true, true, true, true, true, true, true, true, true, true, true, true, true, true, true, true, true, true, true, true, true, true, true, true, true, false, false, false, false, false, false, false] (by kernel_rfl) (by kernel_rfl) (by kernel_rfl) (by kernel_rfl) (fun d v c a w h => h) (by assumption) ⟨?_, ?_, ?_, Or.inl ⟨?_, ?_⟩, ?_⟩
                             rotate_left
                             · simp only [List.getElem?_toArray, List.getElem?_cons_zero, List.getElem?_cons_succ]; rfl
                             rotate_left
                             · rfl
                             · intro w hSw; (try dsimp only at hSw); go_simp; try (with_reducible rfl)
                             simp only [Act.put, List.setIfInBounds_toArray, List.set_cons_zero, List.set_cons_succ])
                          | (refine wpAnyH_takeL 36 #[true, true, true, true, true, true, true, true, true, true, true, true, true, true, true, true, true, true, true, true, true, true, true, true, true, true, true, true, true, true, true, true, true, true, true, true, true, false, false, false, false, false, false, false] (by kernel_rfl) (by kernel_rfl) (by kernel_rfl) (by kernel_rfl) (fun d v c a w h => h) (by assumption) ⟨?_, ?_, undef, Or.inr ⟨?_, rfl⟩, ?_⟩
                             rotate_left
                             · simp only [List.getElem?_toArray, List.getElem?_cons_zero, List.getElem?_cons_succ]; rfl
                             · rfl
                             simp only [Act.put, List.setIfInBounds_toArray, List.set_cons_zero, List.set_cons_succ])
                        first
                          | (refine wpAnyH_takeL 37 #[true, true, true, true, true, true, true, true, true, true, true, true, true, true, true, true, true, true, true, true, true, true, true, true, true, true, true, true, true, true, true, true, true, true, true, true, true, true, false, false, false, false, false, false] (by kernel_rfl) (by kernel_rfl) (by kernel_rfl) (by kernel_rfl) (fun d v c a w h => h) (by assumption) ⟨?_, ?_, ?_, Or.inl ⟨?_, ?_⟩, ?_⟩
                             rotate_left
                             · simp only [List.getElem?_toArray, List.getElem?_cons_zero, List.getElem?_cons_succ]; rfl
                             rotate_left
                             · rfl
                             · intro w hSw; (try dsimp only at hSw); go_simp; try (with_reducible rfl)
                             simp only [Act.put, List.setIfInBounds_toArray, List.set_cons_zero, List.set_cons_succ])
                          | (refine wpAnyH_takeL 37 #[true, true, true, true, true, true, true, true, true, true, true, true, true, true, true, true, true, true, true, true, true, true, true, true, true, true, true, true, true, true, true, true, true, true, true, true, true, true, false, false, false, false, false, false] (by kernel_rfl) (by kernel_rfl) (by kernel_rfl) (by kernel_rfl) (fun d v c a w h => h) (by assumption) ⟨?_, ?_, undef, Or.inr ⟨?_, rfl⟩, ?_⟩
                             rotate_left
                             · simp only [List.getElem?_toArray, List.getElem?_cons_zero, List.getElem?_cons_succ]; rfl
                             · rfl
                             simp only [Act.put, List.setIfInBounds_toArray, List.set_cons_zero, List.set_cons_succ])
                        first
                          | (refine wpAnyH_takeL 38 #[true, true, true, true, true, true, true, true, true, true, true, true, true, true, true, true, true, true, true, true, true, true, true, true, true, true, true, true, true, true, true, true, true, true, true, true, true, true, true, false, false, false, false, false] (by kernel_rfl) (by kernel_rfl) (by kernel_rfl) (by kernel_rfl) (fun d v c a w h => h) (by assumption) ⟨?_, ?_, ?_, Or.inl ⟨?_, ?_⟩, ?_⟩
                             rotate_left
                             · simp only [List.getElem?_toArray, List.getElem?_cons_zero, List.getElem?_cons_succ]; rfl
                             rotate_left
                             · rfl
                             · intro w hSw; (try dsimp only at hSw); go_simp; try (with_reducible rfl)
                             simp only [Act.put, List.setIfInBounds_toArray, List.set_cons_zero, List.set_cons_succ])
                          | (refine wpAnyH_takeL 38 #[true, true, true, true, true, true, true, true, true, true, true, true, true, true, true, true, true, true, true, true, true, true, true, true, true, true, true, true, true, true, true, true, true, true, true, true, true, true, true, false, false, false, false, false] (by kernel_rfl) (by kernel_rfl) (by kernel_rfl) (by kernel_rfl) (fun d v c a w h => h) (by assumption) ⟨?_, ?_, undef, Or.inr ⟨?_, rfl⟩, ?_⟩
                             rotate_left
                             · simp only [List.getElem?_toArray, List.getElem?_cons_zero, List.getElem?_cons_succ]; rfl
                             · rfl
                             simp only [Act.put, List.setIfInBounds_toArray, List.set_cons_zero, List.set_cons_succ])
                        first
                          | (refine wpAnyH_takeL 39 #[true, true, true, true, true, true, true, true, true, true, true, true, true, true, true, true, true, true, true, true, true, true, true, true, true, true, true, true, true, true, true, true, true, true, true, true, true, true, true, true, false, false, false, false] (by kernel_rfl) (by kernel_rfl) (by kernel_rfl) (by kernel_rfl) (fun d v c a w h => h) (by assumption) ⟨?_, ?_, ?_, Or.inl ⟨?_, ?_⟩, ?_⟩
                             rotate_left
                             · simp only [List.getElem?_toArray, List.getElem?_cons_zero, List.getElem?_cons_succ]; rfl
                             rotate_left
                             · rfl
                             · intro w hSw; (try dsimp only at hSw); go_simp; try (with_reducible rfl)
                             simp only [Act.put, List.setIfInBounds_toArray, List.set_cons_zero, List.set_cons_succ])
                          | (refine wpAnyH_takeL 39 #[true, true, true, true, true, true, true, true, true, true, true, true, true, true, true, true, true, true, true, true, true, true, true, true, true, true, true, true, true, true, true, true, true, true, true, true, true, true, true, true, false, false, false, false] (by kernel_rfl) (by kernel_rfl) (by kernel_rfl) (by kernel_rfl) (fun d v c a w h => h) (by assumption) ⟨?_, ?_, undef, Or.inr ⟨?_, rfl⟩, ?_⟩
                             rotate_left
                             · simp only [List.getElem?_toArray, List.getElem?_cons_zero, List.getElem?_cons_succ]; rfl
                             · rfl
                             simp only [Act.put, List.setIfInBounds_toArray, List.set_cons_zero, List.set_cons_succ])
                        first
                          | (refine wpAnyH_takeL 40 #[true, true, true, true, true, true, true, true, true, true, true, true, true, true, true, true, true, true, true, true, true, true, true, true, true, true, true, true, true, true, true, true, true, true, true, true, true, true, true, true, true, false, false, false] (by kernel_rfl) (by kernel_rfl) (by kernel_rfl) (by kernel_rfl) (fun d v c a w h => h) (by assumption) ⟨?_, ?_, ?_, Or.inl ⟨?_, ?_⟩, ?_⟩
                             rotate_left
                             · simp only [List.getElem?_toArray, List.getElem?_cons_zero, List.getElem?_cons_succ]; rfl
                             rotate_left
                             · rfl
                             · intro w hSw; (try dsimp only at hSw); go_simp; try (with_reducible rfl)
                             simp only [Act.put, List.setIfInBounds_toArray, List.set_cons_zero, List.set_cons_succ])
                          | (refine wpAnyH_takeL 40 #[true, true, true, true, true, true, true, true, true, true, true, true, true, true, true, true, true, true, true, true, true, true, true, true, true, true, true, true, true, true, true, true, true, true, true, true, true, true, true, true, true, false, false, false] (by kernel_rfl) (by kernel_rfl) (by kernel_rfl) (by kernel_rfl) (fun d v c a w h => h) (by assumption) ⟨?_, ?_, undef, Or.inr ⟨?_, rfl⟩, ?_⟩
                             rotate_left
                             · simp only [List.getElem?_toArray, List.getElem?_cons_zero, List.getElem?_cons_succ]; rfl
                             · rfl
                             simp only [Act.put, List.setIfInBounds_toArray, List.set_cons_zero, List.set_cons_succ])
                        refine wpAnyH_oneL 41 #[true, true, true, true, true, true, true, true, true, true, true, true, true, true, true, true, true, true, true, true, true, true, true, true, true, true, true, true, true, true, true, true, true, true, true, true, true, true, true, true, true, true, false, false] (by kernel_rfl) (by kernel_rfl) ⟨?_, ?_, fun K hK => ?_⟩
                        rotate_left
                        · simp only [List.getElem?_toArray, List.getElem?_cons_zero, List.getElem?_cons_succ]; rfl
                        rw [if_pos (by rfl)]
                        go_simp
                        go_at_call 23; (with_reducible refine (S3.out _ H6.out.a).mono ?_); rintro e w7 ⟨rfl, hb7⟩; replace H6 := Lib.hid (H6.out.below hb7); clear hb7
                        clear hHeld
                        refine hK.out _ _ (And.intro H6.out.a.cells (And.intro (HXL.out _ H6.out.x) (HX.out _ H6.out.x))) (fun hHeld => ?_)
                        clear hK K
                        try simp only [Act.put, List.setIfInBounds_toArray, List.set_cons_zero, List.set_cons_succ]
                        as_aux_lemma =>
                          first
                            | (refine wpAnyH_takeL 42 #[true, true, true, true, true, true, true, true, true, true, true, true, true, true, true, true, true, true, true, true, true, true, true, true, true, true, true, true, true, true, true, true, true, true, true, true, true, true, true, true, true, true, true, false] (by kernel_rfl) (by kernel_rfl) (by kernel_rfl) (by kernel_rfl) (fun d v c a w h => h) (by assumption) ⟨?_, ?_, ?_, Or.inl ⟨?_, ?_⟩, ?_⟩
                               rotate_left
                               · simp only [List.getElem?_toArray, List.getElem?_cons_zero, List.getElem?_cons_succ]; rfl
                               rotate_left
                               · rfl
                               · intro w hSw; (try dsimp only at hSw); go_simp; try (with_reducible rfl)
                               simp only [Act.put, List.setIfInBounds_toArray, List.set_cons_zero, List.set_cons_succ])
                            | (refine wpAnyH_takeL 42 #[true, true, true, true, true, true, true, true, true, true, true, true, true, true, true, true, true, true, true, true, true, true, true, true, true, true, true, true, true, true, true, true, true, true, true, true, true, true, true, true, true, true, true, false] (by kernel_rfl) (by kernel_rfl) (by kernel_rfl) (by kernel_rfl) (fun d v c a w h => h) (by assumption) ⟨?_, ?_, undef, Or.inr ⟨?_, rfl⟩, ?_⟩
                               rotate_left
                               · simp only [List.getElem?_toArray, List.getElem?_cons_zero, List.getElem?_cons_succ]; rfl
                               · rfl
                               simp only [Act.put, List.setIfInBounds_toArray, List.set_cons_zero, List.set_cons_succ])
                          first
                            | (refine wpAnyH_takeL 43 #[true, true, true, true, true, true, true, true, true, true, true, true, true, true, true, true, true, true, true, true, true, true, true, true, true, true, true, true, true, true, true, true, true, true, true, true, true, true, true, true, true, true, true, true] (by kernel_rfl) (by kernel_rfl) (by kernel_rfl) (by kernel_rfl) (fun d v c a w h => h) (by assumption) ⟨?_, ?_, ?_, Or.inl ⟨?_, ?_⟩, ?_⟩
                               rotate_left
                               · simp only [List.getElem?_toArray, List.getElem?_cons_zero, List.getElem?_cons_succ]; rfl
                               rotate_left
                               · rfl
                               · intro w hSw; (try dsimp only at hSw); go_simp; try (with_reducible rfl)
                               simp only [Act.put, List.setIfInBounds_toArray, List.set_cons_zero, List.set_cons_succ])
                            | (refine wpAnyH_takeL 43 #[true, true, true, true, true, true, true, true, true, true, true, true, true, true, true, true, true, true, true, true, true, true, true, true, true, true, true, true, true, true, true, true, true, true, true, true, true, true, true, true, true, true, true, true] (by kernel_rfl) (by kernel_rfl) (by kernel_rfl) (by kernel_rfl) (fun d v c a w h => h) (by assumption) ⟨?_, ?_, undef, Or.inr ⟨?_, rfl⟩, ?_⟩
                               rotate_left
                               · simp only [List.getElem?_toArray, List.getElem?_cons_zero, List.getElem?_cons_succ]; rfl
                               · rfl
                               simp only [Act.put, List.setIfInBounds_toArray, List.set_cons_zero, List.set_cons_succ])
                          as_aux_lemma =>
                            refine wpAnyH_done (by kernel_rfl) (NoPanic.normal ?_) _
                            go_wp2
                            go_roundw
                            case rel => exact ⟨i + 1, by go_num, by omega, H6⟩
                            case measure => simp [intOf]; omega
          · have eil : i = l := by omega
            subst eil
            have q9 : ((i : Int) == (i : Int)) = true := beq_self_eq_true _
            have q10 : decide ((i : Int) = (i : Int)) = true := decide_eq_true rfl
            clear S3'
            have hc5 := And.intro H5.out.a.cells hxl
            go_upto_region 22 with fail
            as_aux_lemma =>
              refine wp_region_noPanic ?_
              refine wp_region_heldL (S := fun w' => (w'.cell? { block := q1, off := 0 } = some (.slice A1 ks1.length c1) ∧ w'.cell? { block := q1, off := 1 } = some (.int .i64 (neverF [⟨2, n, f⟩]).1) ∧ w'.cell? { block := q1, off := 2 } = some (.bool (neverF [⟨2, n, f⟩]).2)) ∧ (w'.cell? { block := gx, off := 0 } = some (.slice (some ⟨qn, 0, none⟩) M.length cn) ∧ w'.cell? { block := gx, off := 1 } = some (.slice (some ⟨qm, 0, none⟩) M.length cm) ∧ w'.cell? { block := qn, off := i } = some (.int .u64 zn) ∧ w'.cell? { block := qm, off := i } = some (.int .i64 zm))) #[false, false, false, false, false, false, false, false, false, false, false, false, false, false, false, false, false, false, false, false, false, false, false, false, false, false, false, false, false, false, false, false, false, false, false, false, false, false, false, false, false, false, false, false] (by kernel_rfl) 44 (by kernel_rfl) (by kernel_rfl) (by exact hc5) (fun hHeld => ?_)
              have H6 := Lib.hid (H5.out.below (below_drew (Below.refl _ _)))
              clear hc5 H5
              first
                | (refine wpAnyH_takeL 0 #[true, false, false, false, false, false, false, false, false, false, false, false, false, false, false, false, false, false, false, false, false, false, false, false, false, false, false, false, false, false, false, false, false, false, false, false, false, false, false, false, false, false, false, false] (by kernel_rfl) (by kernel_rfl) (by kernel_rfl) (by kernel_rfl) (fun d v c a w h => h) (by assumption) ⟨?_, ?_, ?_, Or.inl ⟨?_, ?_⟩, ?_⟩
                   rotate_left
                   · simp only [List.getElem?_toArray, List.getElem?_cons_zero, List.getElem?_cons_succ]; rfl
                   rotate_left
                   · rfl
                   · intro w hSw; (try dsimp only at hSw); go_simp; try (with_reducible rfl)
                   simp only [Act.put, List.setIfInBounds_toArray, List.set_cons_zero, List.set_cons_succ])
                | (refine wpAnyH_takeL 0 #[true, false, false, false, false, false, false, false, false, false, false, false, false, false, false, false, false, false, false, false, false, false, false, false, false, false, false, false, false, false, false, false, false, false, false, false, false, false, false, false, false, false, false, false] (by kernel_rfl) (by kernel_rfl) (by kernel_rfl) (by kernel_rfl) (fun d v c a w h => h) (by assumption) ⟨?_, ?_, undef, Or.inr ⟨?_, rfl⟩, ?_⟩
                   rotate_left
                   · simp only [List.getElem?_toArray, List.getElem?_cons_zero, List.getElem?_cons_succ]; rfl
                   · rfl
                   simp only [Act.put, List.setIfInBounds_toArray, List.set_cons_zero, List.set_cons_succ])
              first
                | (refine wpAnyH_takeL 1 #[true, true, false, false, false, false, false, false, false, false, false, false, false, false, false, false, false, false, false, false, false, false, false, false, false, false, false, false, false, false, false, false, false, false, false, false, false, false, false, false, false, false, false, false] (by kernel_rfl) (by kernel_rfl) (by kernel_rfl) (by kernel_rfl) (fun d v c a w h => h) (by assumption) ⟨?_, ?_, ?_, Or.inl ⟨?_, ?_⟩, ?_⟩
                   rotate_left
                   · simp only [List.getElem?_toArray, List.getElem?_cons_zero, List.getElem?_cons_succ]; rfl
                   rotate_left
                   · rfl
                   · intro w hSw; (try dsimp only at hSw); go_simp; try (with_reducible rfl)
                   simp only [Act.put, List.setIfInBounds_toArray, List.set_cons_zero, List.set_cons_succ])
                | (refine wpAnyH_takeL 1 #[true, true, false, false, false, false, false, false, false, false, false, false, false, false, false, false, false, false, false, false, false, false, false, false, false, false, false, false, false, false, false, false, false, false, false, false, false, false, false, false, false, false, false, false] (by kernel_rfl) (by kernel_rfl) (by kernel_rfl) (by kernel_rfl) (fun d v c a w h => h) (by assumption) ⟨?_, ?_, undef, Or.inr ⟨?_, rfl⟩, ?_⟩
                   rotate_left
                   · simp only [List.getElem?_toArray, List.getElem?_cons_zero, List.getElem?_cons_succ]; rfl
                   · rfl
                   simp only [Act.put, List.setIfInBounds_toArray, List.set_cons_zero, List.set_cons_succ])
              first
                | (refine wpAnyH_takeL 2 #[true, true, true, false, false, false, false, false, false, false, false, false, false, false, false, false, false, false, false, false, false, false, false, false, false, false, false, false, false, false, false, false, false, false, false, false, false, false, false, false, false, false, false, false] (by kernel_rfl) (by kernel_rfl) (by kernel_rfl) (by kernel_rfl) (fun d v c a w h => h) (by assumption) ⟨?_, ?_, ?_, Or.inl ⟨?_, ?_⟩, ?_⟩
                   rotate_left
                   · simp only [List.getElem?_toArray, List.getElem?_cons_zero, List.getElem?_cons_succ]; rfl
                   rotate_left
                   · rfl
                   · intro w hSw; (try dsimp only at hSw); go_simp; try (with_reducible rfl)
                   simp only [Act.put, List.setIfInBounds_toArray, List.set_cons_zero, List.set_cons_succ])
                | (refine wpAnyH_takeL 2 #[true, true, true, false, false, false, false, false, false, false, false, false, false, false, false, false, false, false, false, false, false, false, false, false, false, false, false, false, false, false, false, false, false, false, false, false, false, false, false, false, false, false, false, false] (by kernel_rfl) (by kernel_rfl) (by kernel_rfl) (by kernel_rfl) (fun d v c a w h => h) (by assumption) ⟨?_, ?_, undef, Or.inr ⟨?_, rfl⟩, ?_⟩
                   rotate_left
                   · simp only [List.getElem?_toArray, List.getElem?_cons_zero, List.getElem?_cons_succ]; rfl
                   · rfl
                   simp only [Act.put, List.setIfInBounds_toArray, List.set_cons_zero, List.set_cons_succ])
              first
                | (refine wpAnyH_takeL 3 #[true, true, true, true, false, false, false, false, false, false, false, false, false, false, false, false, false, false, false, false, false, false, false, false, false, false, false, false, false, false, false, false, false, false, false, false, false, false, false, false, false, false, false, false] (by kernel_rfl) (by kernel_rfl) (by kernel_rfl) (by kernel_rfl) (fun d v c a w h => h) (by assumption) ⟨?_, ?_, ?_, Or.inl ⟨?_, ?_⟩, ?_⟩
                   rotate_left
                   · simp only [List.getElem?_toArray, List.getElem?_cons_zero, List.getElem?_cons_succ]; rfl
                   rotate_left
                   · rfl
                   · intro w hSw; (try dsimp only at hSw); go_simp; try (with_reducible rfl)
                   simp only [Act.put, List.setIfInBounds_toArray, List.set_cons_zero, List.set_cons_succ])
                | (refine wpAnyH_takeL 3 #[true, true, true, true, false, false, false, false, false, false, false, false, false, false, false, false, false, false, false, false, false, false, false, false, false, false, false, false, false, false, false, false, false, false, false, false, false, false, false, false, false, false, false, false] (by kernel_rfl) (by kernel_rfl) (by kernel_rfl) (by kernel_rfl) (fun d v c a w h => h) (by assumption) ⟨?_, ?_, undef, Or.inr ⟨?_, rfl⟩, ?_⟩
                   rotate_left
                   · simp only [List.getElem?_toArray, List.getElem?_cons_zero, List.getElem?_cons_succ]; rfl
                   · rfl
                   simp only [Act.put, List.setIfInBounds_toArray, List.set_cons_zero, List.set_cons_succ])
              first
                | (refine wpAnyH_takeL 4 #[true, true, true, true, true, false, false, false, false, false, false, false, false, false, false, false, false, false, false, false, false, false, false, false, false, false, false, false, false, false, false, false, false, false, false, false, false, false, false, false, false, false, false, false] (by kernel_rfl) (by kernel_rfl) (by kernel_rfl) (by kernel_rfl) (fun d v c a w h => h) (by assumption) ⟨?_, ?_, ?_, Or.inl ⟨?_, ?_⟩, ?_⟩
                   rotate_left
                   · simp only [List.getElem?_toArray, List.getElem?_cons_zero, List.getElem?_cons_succ]; rfl
                   rotate_left
                   · rfl
                   · intro w hSw; (try dsimp only at hSw); go_simp; try (with_reducible rfl)
                   simp only [Act.put, List.setIfInBounds_toArray, List.set_cons_zero, List.set_cons_succ])
                | (refine wpAnyH_takeL 4 #[true, true, true, true, true, false, false, false, false, false, false, false, false, false, false, false, false, false, false, false, false, false, false, false, false, false, false, false, false, false, false, false, false, false, false, false, false, false, false, false, false, false, false, false] (by kernel_rfl) (by kernel_rfl) (by kernel_rfl) (by kernel_rfl) (fun d v c a w h => h) (by assumption) ⟨?_, ?_, undef, Or.inr ⟨?_, rfl⟩, ?_⟩
                   rotate_left
                   · simp only [List.getElem?_toArray, List.getElem?_cons_zero, List.getElem?_cons_succ]; rfl
                   · rfl
                   simp only [Act.put, List.setIfInBounds_toArray, List.set_cons_zero, List.set_cons_succ])
              first
                | (refine wpAnyH_takeL 5 #[true, true, true, true, true, true, false, false, false, false, false, false, false, false, false, false, false, false, false, false, false, false, false, false, false, false, false, false, false, false, false, false, false, false, false, false, false, false, false, false, false, false, false, false] (by kernel_rfl) (by kernel_rfl) (by kernel_rfl) (by kernel_rfl) (fun d v c a w h => h) (by assumption) ⟨?_, ?_, ?_, Or.inl ⟨?_, ?_⟩, ?_⟩
                   rotate_left
                   · simp only [List.getElem?_toArray, List.getElem?_cons_zero, List.getElem?_cons_succ]; rfl
                   rotate_left
                   · rfl
                   · intro w hSw; (try dsimp only at hSw); go_simp; try (with_reducible rfl)
                   simp only [Act.put, List.setIfInBounds_toArray, List.set_cons_zero, List.set_cons_succ])
                | (refine wpAnyH_takeL 5 #[true, true, true, true, true, true, false, false, false, false, false, false, false, false, false, false, false, false, false, false, false, false, false, false, false, false, false, false, false, false, false, false, false, false, false, false, false, false, false, false, false, false, false, false] (by kernel_rfl) (by kernel_rfl) (by kernel_rfl) (by kernel_rfl) (fun d v c a w h => h) (by assumption) ⟨?_, ?_, undef, Or.inr ⟨?_, rfl⟩, ?_⟩
                   rotate_left
                   · simp only [List.getElem?_toArray, List.getElem?_cons_zero, List.getElem?_cons_succ]; rfl
                   · rfl
                   simp only [Act.put, List.setIfInBounds_toArray, List.set_cons_zero, List.set_cons_succ])
              first
                | (refine wpAnyH_takeL 6 #[true, true, true, true, true, true, true, false, false, false, false, false, false, false, false, false, false, false, false, false, false, false, false, false, false, false, false, false, false, false, false, false, false, false, false, false, false, false, false, false, false, false, false, false] (by kernel_rfl) (by kernel_rfl) (by kernel_rfl) (by kernel_rfl) (fun d v c a w h => h) (by assumption) ⟨?_, ?_, ?_, Or.inl ⟨?_, ?_⟩, ?_⟩
                   rotate_left
                   · simp only [List.getElem?_toArray, List.getElem?_cons_zero, List.getElem?_cons_succ]; rfl
                   rotate_left
                   · rfl
                   · intro w hSw; (try dsimp only at hSw); go_simp; try (with_reducible rfl)
                   simp only [Act.put, List.setIfInBounds_toArray, List.set_cons_zero, List.set_cons_succ])
                | (refine wpAnyH_takeL 6 #[true, true, true, true, true, true, true, false, false, false, false, false, false, false, false, false, false, false, false, false, false, false, false, false, false, false, false, false, false, false, false, false, false, false, false, false, false, false, false, false, false, false, false, false] (by kernel_rfl) (by kernel_rfl) (by kernel_rfl) (by kernel_rfl) (fun d v c a w h => h) (by assumption) ⟨?_, ?_, undef, Or.inr ⟨?_, rfl⟩, ?_⟩
                   rotate_left
                   · simp only [List.getElem?_toArray, List.getElem?_cons_zero, List.getElem?_cons_succ]; rfl
                   · rfl
                   simp only [Act.put, List.setIfInBounds_toArray, List.set_cons_zero, List.set_cons_succ])
              as_aux_lemma =>
                first
                  | (refine wpAnyH_takeL 7 #[true, true, true, true, true, true, true, true, false, false, false, false, false, false, false, false, false, false, false, false, false, false, false, false, false, false, false, false, false, false, false, false, false, false, false, false, false, false, false, false, false, false, false, false] (by kernel_rfl) (by kernel_rfl) (by kernel_rfl) (by kernel_rfl) (fun d v c a w h => h) (by assumption) ⟨?_, ?_, ?_, Or.inl ⟨?_, ?_⟩, ?_⟩
                     rotate_left
                     · simp only [List.getElem?_toArray, List.getElem?_cons_zero, List.getElem?_cons_succ]; rfl
                     rotate_left
                     · rfl
                     · intro w hSw; (try dsimp only at hSw); go_simp; try (with_reducible rfl)
                     simp only [Act.put, List.setIfInBounds_toArray, List.set_cons_zero, List.set_cons_succ])
                  | (refine wpAnyH_takeL 7 #[true, true, true, true, true, true, true, true, false, false, false, false, false, false, false, false, false, false, false, false, false, false, false, false, false, false, false, false, false, false, false, false, false, false, false, false, false, false, false, false, false, false, false, false] (by kernel_rfl) (by kernel_rfl) (by kernel_rfl) (by kernel_rfl) (fun d v c a w h => h) (by assumption) ⟨?_, ?_, undef, Or.inr ⟨?_, rfl⟩, ?_⟩
                     rotate_left
                     · simp only [List.getElem?_toArray, List.getElem?_cons_zero, List.getElem?_cons_succ]; rfl
                     · rfl
                     simp only [Act.put, List.setIfInBounds_toArray, List.set_cons_zero, List.set_cons_succ])
                first
                  | (refine wpAnyH_takeL 8 #[true, true, true, true, true, true, true, true, true, false, false, false, false, false, false, false, false, false, false, false, false, false, false, false, false, false, false, false, false, false, false, false, false, false, false, false, false, false, false, false, false, false, false, false] (by kernel_rfl) (by kernel_rfl) (by kernel_rfl) (by kernel_rfl) (fun d v c a w h => h) (by assumption) ⟨?_, ?_, ?_, Or.inl ⟨?_, ?_⟩, ?_⟩
                     rotate_left
                     · simp only [List.getElem?_toArray, List.getElem?_cons_zero, List.getElem?_cons_succ]; rfl
                     rotate_left
                     · rfl
                     · intro w hSw; (try dsimp only at hSw); go_simp; try (with_reducible rfl)
                     simp only [Act.put, List.setIfInBounds_toArray, List.set_cons_zero, List.set_cons_succ])
                  | (refine wpAnyH_takeL 8 #[true, true, true, true, true, true, true, true, true, false, false, false, false, false, false, false, false, false, false, false, false, false, false, false, false, false, false, false, false, false, false, false, false, false, false, false, false, false, false, false, false, false, false, false] (by kernel_rfl) (by kernel_rfl) (by kernel_rfl) (by kernel_rfl) (fun d v c a w h => h) (by assumption) ⟨?_, ?_, undef, Or.inr ⟨?_, rfl⟩, ?_⟩
                     rotate_left
                     · simp only [List.getElem?_toArray, List.getElem?_cons_zero, List.getElem?_cons_succ]; rfl
                     · rfl
                     simp only [Act.put, List.setIfInBounds_toArray, List.set_cons_zero, List.set_cons_succ])
                first
                  | (refine wpAnyH_takeL 9 #[true, true, true, true, true, true, true, true, true, true, false, false, false, false, false, false, false, false, false, false, false, false, false, false, false, false, false, false, false, false, false, false, false, false, false, false, false, false, false, false, false, false, false, false] (by kernel_rfl) (by kernel_rfl) (by kernel_rfl) (by kernel_rfl) (fun d v c a w h => h) (by assumption) ⟨?_, ?_, ?_, Or.inl ⟨?_, ?_⟩, ?_⟩
                     rotate_left
                     · simp only [List.getElem?_toArray, List.getElem?_cons_zero, List.getElem?_cons_succ]; rfl
                     rotate_left
                     · rfl
                     · intro w hSw; (try dsimp only at hSw); go_simp; try (with_reducible rfl)
                     simp only [Act.put, List.setIfInBounds_toArray, List.set_cons_zero, List.set_cons_succ])
                  | (refine wpAnyH_takeL 9 #[true, true, true, true, true, true, true, true, true, true, false, false, false, false, false, false, false, false, false, false, false, false, false, false, false, false, false, false, false, false, false, false, false, false, false, false, false, false, false, false, false, false, false, false] (by kernel_rfl) (by kernel_rfl) (by kernel_rfl) (by kernel_rfl) (fun d v c a w h => h) (by assumption) ⟨?_, ?_, undef, Or.inr ⟨?_, rfl⟩, ?_⟩
                     rotate_left
                     · simp only [List.getElem?_toArray, List.getElem?_cons_zero, List.getElem?_cons_succ]; rfl
                     · rfl
                     simp only [Act.put, List.setIfInBounds_toArray, List.set_cons_zero, List.set_cons_succ])
                first
                  | (refine wpAnyH_takeL 10 #[true, true, true, true, true, true, true, true, true, true, true, false, false, false, false, false, false, false, false, false, false, false, false, false, false, false, false, false, false, false, false, false, false, false, false, false, false, false, false, false, false, false, false, false] (by kernel_rfl) (by kernel_rfl) (by kernel_rfl) (by kernel_rfl) (fun d v c a w h => h) (by assumption) ⟨?_, ?_, ?_, Or.inl ⟨?_, ?_⟩, ?_⟩
                     rotate_left
                     · simp only [List.getElem?_toArray, List.getElem?_cons_zero, List.getElem?_cons_succ]; rfl
                     rotate_left
                     · rfl
                     · intro w hSw; (try dsimp only at hSw); go_simp; try (with_reducible rfl)
                     simp only [Act.put, List.setIfInBounds_toArray, List.set_cons_zero, List.set_cons_succ])
                  | (refine wpAnyH_takeL 10 #[true, true, true, true, true, true, true, true, true, true, true, false, false, false, false, false, false, false, false, false, false, false, false, false, false, false, false, false, false, false, false, false, false, false, false, false, false, false, false, false, false, false, false, false] (by kernel_rfl) (by kernel_rfl) (by kernel_rfl) (by kernel_rfl) (fun d v c a w h => h) (by assumption) ⟨?_, ?_, undef, Or.inr ⟨?_, rfl⟩, ?_⟩
                     rotate_left
                     · simp only [List.getElem?_toArray, List.getElem?_cons_zero, List.getElem?_cons_succ]; rfl
                     · rfl
                     simp only [Act.put, List.setIfInBounds_toArray, List.set_cons_zero, List.set_cons_succ])
                first
                  | (refine wpAnyH_takeL 12 #[true, true, true, true, true, true, true, true, true, true, true, false, true, false, false, false, false, false, false, false, false, false, false, false, false, false, false, false, false, false, false, false, false, false, false, false, false, false, false, false, false, false, false, false] (by kernel_rfl) (by kernel_rfl) (by kernel_rfl) (by kernel_rfl) (fun d v c a w h => h) (by assumption) ⟨?_, ?_, ?_, Or.inl ⟨?_, ?_⟩, ?_⟩
                     rotate_left
                     · simp only [List.getElem?_toArray, List.getElem?_cons_zero, List.getElem?_cons_succ]; rfl
                     rotate_left
                     · rfl
                     · intro w hSw; (try dsimp only at hSw); go_simp; try (with_reducible rfl)
                     simp only [Act.put, List.setIfInBounds_toArray, List.set_cons_zero, List.set_cons_succ])
                  | (refine wpAnyH_takeL 12 #[true, true, true, true, true, true, true, true, true, true, true, false, true, false, false, false, false, false, false, false, false, false, false, false, false, false, false, false, false, false, false, false, false, false, false, false, false, false, false, false, false, false, false, false] (by kernel_rfl) (by kernel_rfl) (by kernel_rfl) (by kernel_rfl) (fun d v c a w h => h) (by assumption) ⟨?_, ?_, undef, Or.inr ⟨?_, rfl⟩, ?_⟩
                     rotate_left
                     · simp only [List.getElem?_toArray, List.getElem?_cons_zero, List.getElem?_cons_succ]; rfl
                     · rfl
                     simp only [Act.put, List.setIfInBounds_toArray, List.set_cons_zero, List.set_cons_succ])
                first
                  | (refine wpAnyH_takeL 13 #[true, true, true, true, true, true, true, true, true, true, true, false, true, true, false, false, false, false, false, false, false, false, false, false, false, false, false, false, false, false, false, false, false, false, false, false, false, false, false, false, false, false, false, false] (by kernel_rfl) (by kernel_rfl) (by kernel_rfl) (by kernel_rfl) (fun d v c a w h => h) (by assumption) ⟨?_, ?_, ?_, Or.inl ⟨?_, ?_⟩, ?_⟩
                     rotate_left
                     · simp only [List.getElem?_toArray, List.getElem?_cons_zero, List.getElem?_cons_succ]; rfl
                     rotate_left
                     · rfl
                     · intro w hSw; (try dsimp only at hSw); go_simp; try (with_reducible rfl)
                     simp only [Act.put, List.setIfInBounds_toArray, List.set_cons_zero, List.set_cons_succ])
                  | (refine wpAnyH_takeL 13 #[true, true, true, true, true, true, true, true, true, true, true, false, true, true, false, false, false, false, false, false, false, false, false, false, false, false, false, false, false, false, false, false, false, false, false, false, false, false, false, false, false, false, false, false] (by kernel_rfl) (by kernel_rfl) (by kernel_rfl) (by kernel_rfl) (fun d v c a w h => h) (by assumption) ⟨?_, ?_, undef, Or.inr ⟨?_, rfl⟩, ?_⟩
                     rotate_left
                     · simp only [List.getElem?_toArray, List.getElem?_cons_zero, List.getElem?_cons_succ]; rfl
                     · rfl
                     simp only [Act.put, List.setIfInBounds_toArray, List.set_cons_zero, List.set_cons_succ])
                first
                  | (refine wpAnyH_takeL 14 #[true, true, true, true, true, true, true, true, true, true, true, false, true, true, true, false, false, false, false, false, false, false, false, false, false, false, false, false, false, false, false, false, false, false, false, false, false, false, false, false, false, false, false, false] (by kernel_rfl) (by kernel_rfl) (by kernel_rfl) (by kernel_rfl) (fun d v c a w h => h) (by assumption) ⟨?_, ?_, ?_, Or.inl ⟨?_, ?_⟩, ?_⟩
                     rotate_left
                     · simp only [List.getElem?_toArray, List.getElem?_cons_zero, List.getElem?_cons_succ]; rfl
                     rotate_left
                     · rfl
                     · intro w hSw; (try dsimp only at hSw); go_simp; try (with_reducible rfl)
                     simp only [Act.put, List.setIfInBounds_toArray, List.set_cons_zero, List.set_cons_succ])
                  | (refine wpAnyH_takeL 14 #[true, true, true, true, true, true, true, true, true, true, true, false, true, true, true, false, false, false, false, false, false, false, false, false, false, false, false, false, false, false, false, false, false, false, false, false, false, false, false, false, false, false, false, false] (by kernel_rfl) (by kernel_rfl) (by kernel_rfl) (by kernel_rfl) (fun d v c a w h => h) (by assumption) ⟨?_, ?_, undef, Or.inr ⟨?_, rfl⟩, ?_⟩
                     rotate_left
                     · simp only [List.getElem?_toArray, List.getElem?_cons_zero, List.getElem?_cons_succ]; rfl
                     · rfl
                     simp only [Act.put, List.setIfInBounds_toArray, List.set_cons_zero, List.set_cons_succ])
                as_aux_lemma =>
                  first
                    | (refine wpAnyH_takeL 15 #[true, true, true, true, true, true, true, true, true, true, true, false, true, true, true, true, false, false, false, false, false, false, false, false, false, false, false, false, false, false, false, false, false, false, false, false, false, false, false, false, false, false, false, false] (by kernel_rfl) (by kernel_rfl) (by kernel_rfl) (by kernel_rfl) (fun d v c a w h => h) (by assumption) ⟨?_, ?_, ?_, Or.inl ⟨?_, ?_⟩, ?_⟩
                       rotate_left
                       · simp only [List.getElem?_toArray, List.getElem?_cons_zero, List.getElem?_cons_succ]; rfl
                       rotate_left
                       · rfl
                       · intro w hSw; (try dsimp only at hSw); go_simp; try (with_reducible rfl)
                       simp only [Act.put, List.setIfInBounds_toArray, List.set_cons_zero, List.set_cons_succ])
                    | (refine wpAnyH_takeL 15 #[true, true, true, true, true, true, true, true, true, true, true, false, true, true, true, true, false, false, false, false, false, false, false, false, false, false, false, false, false, false, false, false, false, false, false, false, false, false, false, false, false, false, false, false] (by kernel_rfl) (by kernel_rfl) (by kernel_rfl) (by kernel_rfl) (fun d v c a w h => h) (by assumption) ⟨?_, ?_, undef, Or.inr ⟨?_, rfl⟩, ?_⟩
                       rotate_left
                       · simp only [List.getElem?_toArray, List.getElem?_cons_zero, List.getElem?_cons_succ]; rfl
                       · rfl
                       simp only [Act.put, List.setIfInBounds_toArray, List.set_cons_zero, List.set_cons_succ])
                  first
                    | (refine wpAnyH_takeL 16 #[true, true, true, true, true, true, true, true, true, true, true, false, true, true, true, true, true, false, false, false, false, false, false, false, false, false, false, false, false, false, false, false, false, false, false, false, false, false, false, false, false, false, false, false] (by kernel_rfl) (by kernel_rfl) (by kernel_rfl) (by kernel_rfl) (fun d v c a w h => h) (by assumption) ⟨?_, ?_, ?_, Or.inl ⟨?_, ?_⟩, ?_⟩
                       rotate_left
                       · simp only [List.getElem?_toArray, List.getElem?_cons_zero, List.getElem?_cons_succ]; rfl
                       rotate_left
                       · rfl
                       · intro w hSw; (try dsimp only at hSw); go_simp; try (with_reducible rfl)
                       simp only [Act.put, List.setIfInBounds_toArray, List.set_cons_zero, List.set_cons_succ])
                    | (refine wpAnyH_takeL 16 #[true, true, true, true, true, true, true, true, true, true, true, false, true, true, true, true, true, false, false, false, false, false, false, false, false, false, false, false, false, false, false, false, false, false, false, false, false, false, false, false, false, false, false, false] (by kernel_rfl) (by kernel_rfl) (by kernel_rfl) (by kernel_rfl) (fun d v c a w h => h) (by assumption) ⟨?_, ?_, undef, Or.inr ⟨?_, rfl⟩, ?_⟩
                       rotate_left
                       · simp only [List.getElem?_toArray, List.getElem?_cons_zero, List.getElem?_cons_succ]; rfl
                       · rfl
                       simp only [Act.put, List.setIfInBounds_toArray, List.set_cons_zero, List.set_cons_succ])
                  first
                    | (refine wpAnyH_takeL 17 #[true, true, true, true, true, true, true, true, true, true, true, false, true, true, true, true, true, true, false, false, false, false, false, false, false, false, false, false, false, false, false, false, false, false, false, false, false, false, false, false, false, false, false, false] (by kernel_rfl) (by kernel_rfl) (by kernel_rfl) (by kernel_rfl) (fun d v c a w h => h) (by assumption) ⟨?_, ?_, ?_, Or.inl ⟨?_, ?_⟩, ?_⟩
                       rotate_left
                       · simp only [List.getElem?_toArray, List.getElem?_cons_zero, List.getElem?_cons_succ]; rfl
                       rotate_left
                       · rfl
                       · intro w hSw; (try dsimp only at hSw); go_simp; try (with_reducible rfl)
                       simp only [Act.put, List.setIfInBounds_toArray, List.set_cons_zero, List.set_cons_succ])
                    | (refine wpAnyH_takeL 17 #[true, true, true, true, true, true, true, true, true, true, true, false, true, true, true, true, true, true, false, false, false, false, false, false, false, false, false, false, false, false, false, false, false, false, false, false, false, false, false, false, false, false, false, false] (by kernel_rfl) (by kernel_rfl) (by kernel_rfl) (by kernel_rfl) (fun d v c a w h => h) (by assumption) ⟨?_, ?_, undef, Or.inr ⟨?_, rfl⟩, ?_⟩
                       rotate_left
                       · simp only [List.getElem?_toArray, List.getElem?_cons_zero, List.getElem?_cons_succ]; rfl
                       · rfl
                       simp only [Act.put, List.setIfInBounds_toArray, List.set_cons_zero, List.set_cons_succ])
                  first
                    | (refine wpAnyH_takeL 18 #[true, true, true, true, true, true, true, true, true, true, true, false, true, true, true, true, true, true, true, false, false, false, false, false, false, false, false, false, false, false, false, false, false, false, false, false, false, false, false, false, false, false, false, false] (by kernel_rfl) (by kernel_rfl) (by kernel_rfl) (by kernel_rfl) (fun d v c a w h => h) (by assumption) ⟨?_, ?_, ?_, Or.inl ⟨?_, ?_⟩, ?_⟩
                       rotate_left
                       · simp only [List.getElem?_toArray, List.getElem?_cons_zero, List.getElem?_cons_succ]; rfl
                       rotate_left
                       · rfl
                       · intro w hSw; (try dsimp only at hSw); go_simp; try (with_reducible rfl)
                       simp only [Act.put, List.setIfInBounds_toArray, List.set_cons_zero, List.set_cons_succ])
                    | (refine wpAnyH_takeL 18 #[true, true, true, true, true, true, true, true, true, true, true, false, true, true, true, true, true, true, true, false, false, false, false, false, false, false, false, false, false, false, false, false, false, false, false, false, false, false, false, false, false, false, false, false] (by kernel_rfl) (by kernel_rfl) (by kernel_rfl) (by kernel_rfl) (fun d v c a w h => h) (by assumption) ⟨?_, ?_, undef, Or.inr ⟨?_, rfl⟩, ?_⟩
                       rotate_left
                       · simp only [List.getElem?_toArray, List.getElem?_cons_zero, List.getElem?_cons_succ]; rfl
                       · rfl
                       simp only [Act.put, List.setIfInBounds_toArray, List.set_cons_zero, List.set_cons_succ])
                  first
                    | (refine wpAnyH_takeL 19 #[true, true, true, true, true, true, true, true, true, true, true, false, true, true, true, true, true, true, true, true, false, false, false, false, false, false, false, false, false, false, false, false, false, false, false, false, false, false, false, false, false, false, false, false] (by kernel_rfl) (by kernel_rfl) (by kernel_rfl) (by kernel_rfl) (fun d v c a w h => h) (by assumption) ⟨?_, ?_, ?_, Or.inl ⟨?_, ?_⟩, ?_⟩
                       rotate_left
                       · simp only [List.getElem?_toArray, List.getElem?_cons_zero, List.getElem?_cons_succ]; rfl
                       rotate_left
                       · rfl
                       · intro w hSw; (try dsimp only at hSw); go_simp; try (with_reducible rfl)
                       simp only [Act.put, List.setIfInBounds_toArray, List.set_cons_zero, List.set_cons_succ])
                    | (refine wpAnyH_takeL 19 #[true, true, true, true, true, true, true, true, true, true, true, false, true, true, true, true, true, true, true, true, false, false, false, false, false, false, false, false, false, false, false, false, false, false, false, false, false, false, false, false, false, false, false, false] (by kernel_rfl) (by kernel_rfl) (by kernel_rfl) (by kernel_rfl) (fun d v c a w h => h) (by assumption) ⟨?_, ?_, undef, Or.inr ⟨?_, rfl⟩, ?_⟩
                       rotate_left
                       · simp only [List.getElem?_toArray, List.getElem?_cons_zero, List.getElem?_cons_succ]; rfl
                       · rfl
                       simp only [Act.put, List.setIfInBounds_toArray, List.set_cons_zero, List.set_cons_succ])
                  first
                    | (refine wpAnyH_takeL 20 #[true, true, true, true, true, true, true, true, true, true, true, false, true, true, true, true, true, true, true, true, true, false, false, false, false, false, false, false, false, false, false, false, false, false, false, false, false, false, false, false, false, false, false, false] (by kernel_rfl) (by kernel_rfl) (by kernel_rfl) (by kernel_rfl) (fun d v c a w h => h) (by assumption) ⟨?_, ?_, ?_, Or.inl ⟨?_, ?_⟩, ?_⟩
                       rotate_left
                       · simp only [List.getElem?_toArray, List.getElem?_cons_zero, List.getElem?_cons_succ]; rfl
                       rotate_left
                       · rfl
                       · intro w hSw; (try dsimp only at hSw); go_simp; try (with_reducible rfl)
                       simp only [Act.put, List.setIfInBounds_toArray, List.set_cons_zero, List.set_cons_succ])
                    | (refine wpAnyH_takeL 20 #[true, true, true, true, true, true, true, true, true, true, true, false, true, true, true, true, true, true, true, true, true, false, false, false, false, false, false, false, false, false, false, false, false, false, false, false, false, false, false, false, false, false, false, false] (by kernel_rfl) (by kernel_rfl) (by kernel_rfl) (by kernel_rfl) (fun d v c a w h => h) (by assumption) ⟨?_, ?_, undef, Or.inr ⟨?_, rfl⟩, ?_⟩
                       rotate_left
                       · simp only [List.getElem?_toArray, List.getElem?_cons_zero, List.getElem?_cons_succ]; rfl
                       · rfl
                       simp only [Act.put, List.setIfInBounds_toArray, List.set_cons_zero, List.set_cons_succ])
                  first
                    | (refine wpAnyH_takeL 21 #[true, true, true, true, true, true, true, true, true, true, true, false, true, true, true, true, true, true, true, true, true, true, false, false, false, false, false, false, false, false, false, false, false, false, false, false, false, false, false, false, false, false, false, false] (by kernel_rfl) (by kernel_rfl) (by kernel_rfl) (by kernel_rfl) (fun d v c a w h => h) (by assumption) ⟨?_, ?_, ?_, Or.inl ⟨?_, ?_⟩, ?_⟩
                       rotate_left
                       · simp only [List.getElem?_toArray, List.getElem?_cons_zero, List.getElem?_cons_succ]; rfl
                       rotate_left
                       · rfl
                       · intro w hSw; (try dsimp only at hSw); go_simp; try (with_reducible rfl)
                       simp only [Act.put, List.setIfInBounds_toArray, List.set_cons_zero, List.set_cons_succ])
                    | (refine wpAnyH_takeL 21 #[true, true, true, true, true, true, true, true, true, true, true, false, true, true, true, true, true, true, true, true, true, true, false, false, false, false, false, false, false, false, false, false, false, false, false, false, false, false, false, false, false, false, false, false] (by kernel_rfl) (by kernel_rfl) (by kernel_rfl) (by kernel_rfl) (fun d v c a w h => h) (by assumption) ⟨?_, ?_, undef, Or.inr ⟨?_, rfl⟩, ?_⟩
                       rotate_left
                       · simp only [List.getElem?_toArray, List.getElem?_cons_zero, List.getElem?_cons_succ]; rfl
                       · rfl
                       simp only [Act.put, List.setIfInBounds_toArray, List.set_cons_zero, List.set_cons_succ])
                  as_aux_lemma =>
                    first
                      | (refine wpAnyH_takeL 22 #[true, true, true, true, true, true, true, true, true, true, true, false, true, true, true, true, true, true, true, true, true, true, true, false, false, false, false, false, false, false, false, false, false, false, false, false, false, false, false, false, false, false, false, false] (by kernel_rfl) (by kernel_rfl) (by kernel_rfl) (by kernel_rfl) (fun d v c a w h => h) (by assumption) ⟨?_, ?_, ?_, Or.inl ⟨?_, ?_⟩, ?_⟩
                         rotate_left
                         · simp only [List.getElem?_toArray, List.getElem?_cons_zero, List.getElem?_cons_succ]; rfl
                         rotate_left
                         · rfl
                         · intro w hSw; (try dsimp only at hSw); go_simp; try (with_reducible rfl)
                         simp only [Act.put, List.setIfInBounds_toArray, List.set_cons_zero, List.set_cons_succ])
                      | (refine wpAnyH_takeL 22 #[true, true, true, true, true, true, true, true, true, true, true, false, true, true, true, true, true, true, true, true, true, true, true, false, false, false, false, false, false, false, false, false, false, false, false, false, false, false, false, false, false, false, false, false] (by kernel_rfl) (by kernel_rfl) (by kernel_rfl) (by kernel_rfl) (fun d v c a w h => h) (by assumption) ⟨?_, ?_, undef, Or.inr ⟨?_, rfl⟩, ?_⟩
                         rotate_left
                         · simp only [List.getElem?_toArray, List.getElem?_cons_zero, List.getElem?_cons_succ]; rfl
                         · rfl
                         simp only [Act.put, List.setIfInBounds_toArray, List.set_cons_zero, List.set_cons_succ])
                    first
                      | (refine wpAnyH_takeL 23 #[true, true, true, true, true, true, true, true, true, true, true, false, true, true, true, true, true, true, true, true, true, true, true, true, false, false, false, false, false, false, false, false, false, false, false, false, false, false, false, false, false, false, false, false] (by kernel_rfl) (by kernel_rfl) (by kernel_rfl) (by kernel_rfl) (fun d v c a w h => h) (by assumption) ⟨?_, ?_, ?_, Or.inl ⟨?_, ?_⟩, ?_⟩
                         rotate_left
                         · simp only [List.getElem?_toArray, List.getElem?_cons_zero, List.getElem?_cons_succ]; rfl
                         rotate_left
                         · rfl
                         · intro w hSw; (try dsimp only at hSw); go_simp; try (with_reducible rfl)
                         simp only [Act.put, List.setIfInBounds_toArray, List.set_cons_zero, List.set_cons_succ])
                      | (refine wpAnyH_takeL 23 #[true, true, true, true, true, true, true, true, true, true, true, false, true, true, true, true, true, true, true, true, true, true, true, true, false, false, false, false, false, false, false, false, false, false, false, false, false, false, false, false, false, false, false, false] (by kernel_rfl) (by kernel_rfl) (by kernel_rfl) (by kernel_rfl) (fun d v c a w h => h) (by assumption) ⟨?_, ?_, undef, Or.inr ⟨?_, rfl⟩, ?_⟩
                         rotate_left
                         · simp only [List.getElem?_toArray, List.getElem?_cons_zero, List.getElem?_cons_succ]; rfl
                         · rfl
                         simp only [Act.put, List.setIfInBounds_toArray, List.set_cons_zero, List.set_cons_succ])
                    refine wpAnyH_oneL 11 #[true, true, true, true, true, true, true, true, true, true, true, true, true, true, true, true, true, true, true, true, true, true, true, true, false, false, false, false, false, false, false, false, false, false, false, false, false, false, false, false, false, false, false, false] (by kernel_rfl) (by kernel_rfl) ⟨?_, ?_, fun K hK => ?_⟩
                    rotate_left
                    · simp only [List.getElem?_toArray, List.getElem?_cons_zero, List.getElem?_cons_succ]; rfl
                    rw [if_pos (by rfl)]
                    go_simp
                    go_at_call 23; (with_reducible refine (S1.out _ H6.out.a).mono ?_); rintro e w6 ⟨rfl, hb6⟩; replace H6 := Lib.hid (H6.out.below hb6); clear hb6
                    clear hHeld
                    refine hK.out _ _ (And.intro H6.out.a.cells (HXL.out _ H6.out.x)) (fun hHeld => ?_)
                    clear hK K
                    try simp only [Act.put, List.setIfInBounds_toArray, List.set_cons_zero, List.set_cons_succ]
                    first
                      | (refine wpAnyH_takeL 24 #[true, true, true, true, true, true, true, true, true, true, true, true, true, true, true, true, true, true, true, true, true, true, true, true, true, false, false, false, false, false, false, false, false, false, false, false, false, false, false, false, false, false, false, false] (by kernel_rfl) (by kernel_rfl) (by kernel_rfl) (by kernel_rfl) (fun d v c a w h => h) (by assumption) ⟨?_, ?_, ?_, Or.inl ⟨?_, ?_⟩, ?_⟩
                         rotate_left
                         · simp only [List.getElem?_toArray, List.getElem?_cons_zero, List.getElem?_cons_succ]; rfl
                         rotate_left
                         · rfl
                         · intro w hSw; (try dsimp only at hSw); go_simp; try (with_reducible rfl)
                         simp only [Act.put, List.setIfInBounds_toArray, List.set_cons_zero, List.set_cons_succ])
                      | (refine wpAnyH_takeL 24 #[true, true, true, true, true, true, true, true, true, true, true, true, true, true, true, true, true, true, true, true, true, true, true, true, true, false, false, false, false, false, false, false, false, false, false, false, false, false, false, false, false, false, false, false] (by kernel_rfl) (by kernel_rfl) (by kernel_rfl) (by kernel_rfl) (fun d v c a w h => h) (by assumption) ⟨?_, ?_, undef, Or.inr ⟨?_, rfl⟩, ?_⟩
                         rotate_left
                         · simp only [List.getElem?_toArray, List.getElem?_cons_zero, List.getElem?_cons_succ]; rfl
                         · rfl
                         simp only [Act.put, List.setIfInBounds_toArray, List.set_cons_zero, List.set_cons_succ])
                    first
                      | (refine wpAnyH_takeL 25 #[true, true, true, true, true, true, true, true, true, true, true, true, true, true, true, true, true, true, true, true, true, true, true, true, true, true, false, false, false, false, false, false, false, false, false, false, false, false, false, false, false, false, false, false] (by kernel_rfl) (by kernel_rfl) (by kernel_rfl) (by kernel_rfl) (fun d v c a w h => h) (by assumption) ⟨?_, ?_, ?_, Or.inl ⟨?_, ?_⟩, ?_⟩
                         rotate_left
                         · simp only [List.getElem?_toArray, List.getElem?_cons_zero, List.getElem?_cons_succ]; rfl
                         rotate_left
                         · rfl
                         · intro w hSw; (try dsimp only at hSw); go_simp; try (with_reducible rfl)
                         simp only [Act.put, List.setIfInBounds_toArray, List.set_cons_zero, List.set_cons_succ])
                      | (refine wpAnyH_takeL 25 #[true, true, true, true, true, true, true, true, true, true, true, true, true, true, true, true, true, true, true, true, true, true, true, true, true, true, false, false, false, false, false, false, false, false, false, false, false, false, false, false, false, false, false, false] (by kernel_rfl) (by kernel_rfl) (by kernel_rfl) (by kernel_rfl) (fun d v c a w h => h) (by assumption) ⟨?_, ?_, undef, Or.inr ⟨?_, rfl⟩, ?_⟩
                         rotate_left
                         · simp only [List.getElem?_toArray, List.getElem?_cons_zero, List.getElem?_cons_succ]; rfl
                         · rfl
                         simp only [Act.put, List.setIfInBounds_toArray, List.set_cons_zero, List.set_cons_succ])
                    first
                      | (refine wpAnyH_takeL 26 #[true, true, true, true, true, true, true, true, true, true, true, true, true, true, true, true, true, true, true, true, true, true, true, true, true, true, true, false, false, false, false, false, false, false, false, false, false, false, false, false, false, false, false, false] (by kernel_rfl) (by kernel_rfl) (by kernel_rfl) (by kernel_rfl) (fun d v c a w h => h) (by assumption) ⟨?_, ?_, ?_, Or.inl ⟨?_, ?_⟩, ?_⟩
                         rotate_left
                         · simp only [List.getElem?_toArray, List.getElem?_cons_zero, List.getElem?_cons_succ]; rfl
                         rotate_left
                         · rfl
                         · intro w hSw; (try dsimp only at hSw); go_simp; try (with_reducible rfl)
                         simp only [Act.put, List.setIfInBounds_toArray, List.set_cons_zero, List.set_cons_succ])
                      | (refine wpAnyH_takeL 26 #[true, true, true, true, true, true, true, true, true, true, true, true, true, true, true, true, true, true, true, true, true, true, true, true, true, true, true, false, false, false, false, false, false, false, false, false, false, false, false, false, false, false, false, false] (by kernel_rfl) (by kernel_rfl) (by kernel_rfl) (by kernel_rfl) (fun d v c a w h => h) (by assumption) ⟨?_, ?_, undef, Or.inr ⟨?_, rfl⟩, ?_⟩
                         rotate_left
                         · simp only [List.getElem?_toArray, List.getElem?_cons_zero, List.getElem?_cons_succ]; rfl
                         · rfl
                         simp only [Act.put, List.setIfInBounds_toArray, List.set_cons_zero, List.set_cons_succ])
                    first
                      | (refine wpAnyH_takeL 27 #[true, true, true, true, true, true, true, true, true, true, true, true, true, true, true, true, true, true, true, true, true, true, true, true, true, true, true, true, false, false, false, false, false, false, false, false, false, false, false, false, false, false, false, false] (by kernel_rfl) (by kernel_rfl) (by kernel_rfl) (by kernel_rfl) (fun d v c a w h => h) (by assumption) ⟨?_, ?_, ?_, Or.inl ⟨?_, ?_⟩, ?_⟩
                         rotate_left
                         · simp only [List.getElem?_toArray, List.getElem?_cons_zero, List.getElem?_cons_succ]; rfl
                         rotate_left
                         · rfl
                         · intro w hSw; (try dsimp only at hSw); go_simp; try (with_reducible rfl)
                         simp only [Act.put, List.setIfInBounds_toArray, List.set_cons_zero, List.set_cons_succ])
                      | (refine wpAnyH_takeL 27 #[true, true, true, true, true, true, true, true, true, true, true, true, true, true, true, true, true, true, true, true, true, true, true, true, true, true, true, true, false, false, false, false, false, false, false, false, false, false, false, false, false, false, false, false] (by kernel_rfl) (by kernel_rfl) (by kernel_rfl) (by kernel_rfl) (fun d v c a w h => h) (by assumption) ⟨?_, ?_, undef, Or.inr ⟨?_, rfl⟩, ?_⟩
                         rotate_left
                         · simp only [List.getElem?_toArray, List.getElem?_cons_zero, List.getElem?_cons_succ]; rfl
                         · rfl
                         simp only [Act.put, List.setIfInBounds_toArray, List.set_cons_zero, List.set_cons_succ])
                    as_aux_lemma =>
                      first
                        | (refine wpAnyH_takeL 28 #[true, true, true, true, true, true, true, true, true, true, true, true, true, true, true, true, true, true, true, true, true, true, true, true, true, true, true, true, true, false, false, false, false, false, false, false, false, false, false, false, false, false, false, false] (by kernel_rfl) (by kernel_rfl) (by kernel_rfl) (by kernel_rfl) (fun d v c a w h => h) (by assumption) ⟨?_, ?_, ?_, Or.inl ⟨?_, ?_⟩, ?_⟩
                           rotate_left
                           · simp only [List.getElem?_toArray, List.getElem?_cons_zero, List.getElem?_cons_succ]; rfl
                           rotate_left
                           · rfl
                           · intro w hSw; (try dsimp only at hSw); go_simp; try (with_reducible rfl)
                           simp only [Act.put, List.setIfInBounds_toArray, List.set_cons_zero, List.set_cons_succ])
                        | (refine wpAnyH_takeL 28 #[true, true, true, true, true, true, true, true, true, true, true, true, true, true, true, true, true, true, true, true, true, true, true, true, true, true, true, true, true, false, false, false, false, false, false, false, false, false, false, false, false, false, false, false] (by kernel_rfl) (by kernel_rfl) (by kernel_rfl) (by kernel_rfl) (fun d v c a w h => h) (by assumption) ⟨?_, ?_, undef, Or.inr ⟨?_, rfl⟩, ?_⟩
                           rotate_left
                           · simp only [List.getElem?_toArray, List.getElem?_cons_zero, List.getElem?_cons_succ]; rfl
                           · rfl
                           simp only [Act.put, List.setIfInBounds_toArray, List.set_cons_zero, List.set_cons_succ])
                      first
                        | (refine wpAnyH_takeL 29 #[true, true, true, true, true, true, true, true, true, true, true, true, true, true, true, true, true, true, true, true, true, true, true, true, true, true, true, true, true, true, false, false, false, false, false, false, false, false, false, false, false, false, false, false] (by kernel_rfl) (by kernel_rfl) (by kernel_rfl) (by kernel_rfl) (fun d v c a w h => h) (by assumption) ⟨?_, ?_, ?_, Or.inl ⟨?_, ?_⟩, ?_⟩
                           rotate_left
                           · simp only [List.getElem?_toArray, List.getElem?_cons_zero, List.getElem?_cons_succ]; rfl
                           rotate_left
                           · rfl
                           · intro w hSw; (try dsimp only at hSw); go_simp; try (with_reducible rfl)
                           simp only [Act.put, List.setIfInBounds_toArray, List.set_cons_zero, List.set_cons_succ])
                        | (refine wpAnyH_takeL 29 #[true, true, true, true, true, true, true, true, true, true, true, true, true, true, true, true, true, true, true, true, true, true, true, true, true, true, true, true, true, true, false, false, false, false, false, false, false, false, false, false, false, false, false, false] (by kernel_rfl) (by kernel_rfl) (by kernel_rfl) (by kernel_rfl) (fun d v c a w h => h) (by assumption) ⟨?_, ?_, undef, Or.inr ⟨?_, rfl⟩, ?_⟩
                           rotate_left
                           · simp only [List.getElem?_toArray, List.getElem?_cons_zero, List.getElem?_cons_succ]; rfl
                           · rfl
                           simp only [Act.put, List.setIfInBounds_toArray, List.set_cons_zero, List.set_cons_succ])
                      first
                        | (refine wpAnyH_takeL 30 #[true, true, true, true, true, true, true, true, true, true, true, true, true, true, true, true, true, true, true, true, true, true, true, true, true, true, true, true, true, true, true, false, false, false, false, false, false, false, false, false, false, false, false, false] (by kernel_rfl) (by kernel_rfl) (by kernel_rfl) (by kernel_rfl) (fun d v c a w h => h) (by assumption) ⟨?_, ?_, ?_, Or.inl ⟨?_, ?_⟩, ?_⟩
                           rotate_left
                           · simp only [List.getElem?_toArray, List.getElem?_cons_zero, List.getElem?_cons_succ]; rfl
                           rotate_left
                           · rfl
                           · intro w hSw; (try dsimp only at hSw); go_simp; try (with_reducible rfl)
                           simp only [Act.put, List.setIfInBounds_toArray, List.set_cons_zero, List.set_cons_succ])
                        | (refine wpAnyH_takeL 30 #[true, true, true, true, true, true, true, true, true, true, true, true, true, true, true, true, true, true, true, true, true, true, true, true, true, true, true, true, true, true, true, false, false, false, false, false, false, false, false, false, false, false, false, false] (by kernel_rfl) (by kernel_rfl) (by kernel_rfl) (by kernel_rfl) (fun d v c a w h => h) (by assumption) ⟨?_, ?_, undef, Or.inr ⟨?_, rfl⟩, ?_⟩
                           rotate_left
                           · simp only [List.getElem?_toArray, List.getElem?_cons_zero, List.getElem?_cons_succ]; rfl
                           · rfl
                           simp only [Act.put, List.setIfInBounds_toArray, List.set_cons_zero, List.set_cons_succ])
                      first
                        | (refine wpAnyH_takeL 31 #[true, true, true, true, true, true, true, true, true, true, true, true, true, true, true, true, true, true, true, true, true, true, true, true, true, true, true, true, true, true, true, true, false, false, false, false, false, false, false, false, false, false, false, false] (by kernel_rfl) (by kernel_rfl) (by kernel_rfl) (by kernel_rfl) (fun d v c a w h => h) (by assumption) ⟨?_, ?_, ?_, Or.inl ⟨?_, ?_⟩, ?_⟩
                           rotate_left
                           · simp only [List.getElem?_toArray, List.getElem?_cons_zero, List.getElem?_cons_succ]; rfl
                           rotate_left
                           · rfl
                           · intro w hSw; (try dsimp only at hSw); go_simp; try (with_reducible rfl)
                           simp only [Act.put, List.setIfInBounds_toArray, List.set_cons_zero, List.set_cons_succ])
                        | (refine wpAnyH_takeL 31 #[true, true, true, true, true, true, true, true, true, true, true, true, true, true, true, true, true, true, true, true, true, true, true, true, true, true, true, true, true, true, true, true, false, false, false, false, false, false, false, false, false, false, false, false] (by kernel_rfl) (by kernel_rfl) (by kernel_rfl) (by kernel_rfl) (fun d v c a w h => h) (by assumption) ⟨?_, ?_, undef, Or.inr ⟨?_, rfl⟩, ?_⟩
                           rotate_left
                           · simp only [List.getElem?_toArray, List.getElem?_cons_zero, List.getElem?_cons_succ]; rfl
                           · rfl
                           simp only [Act.put, List.setIfInBounds_toArray, List.set_cons_zero, List.set_cons_succ])
                      first
                        | (refine wpAnyH_takeL 32 #[true, true, true, true, true, true, true, true, true, true, true, true, true, true, true, true, true, true, true, true, true, true, true, true, true, true, true, true, true, true, true, true, true, false, false, false, false, false, false, false, false, false, false, false] (by kernel_rfl) (by kernel_rfl) (by kernel_rfl) (by kernel_rfl) (fun d v c a w h => h) (by assumption) ⟨?_, ?_, ?_, Or.inl ⟨?_, ?_⟩, ?_⟩
                           rotate_left
                           · simp only [List.getElem?_toArray, List.getElem?_cons_zero, List.getElem?_cons_succ]; rfl
                           rotate_left
                           · rfl
                           · intro w hSw; (try dsimp only at hSw); go_simp; try (with_reducible rfl)
                           simp only [Act.put, List.setIfInBounds_toArray, List.set_cons_zero, List.set_cons_succ])
                        | (refine wpAnyH_takeL 32 #[true, true, true, true, true, true, true, true, true, true, true, true, true, true, true, true, true, true, true, true, true, true, true, true, true, true, true, true, true, true, true, true, true, false, false, false, false, false, false, false, false, false, false, false] (by kernel_rfl) (by kernel_rfl) (by kernel_rfl) (by kernel_rfl) (fun d v c a w h => h) (by assumption) ⟨?_, ?_, undef, Or.inr ⟨?_, rfl⟩, ?_⟩
                           rotate_left
                           · simp only [List.getElem?_toArray, List.getElem?_cons_zero, List.getElem?_cons_succ]; rfl
                           · rfl
                           simp only [Act.put, List.setIfInBounds_toArray, List.set_cons_zero, List.set_cons_succ])
                      first
                        | (refine wpAnyH_takeL 33 #[true, true, true, true, true, true, true, true, true, true, true, true, true, true, true, true, true, true, true, true, true, true, true, true, true, true, true, true, true, true, true, true, true, true, false, false, false, false, false, false, false, false, false, false] (by kernel_rfl) (by kernel_rfl) (by kernel_rfl) (by kernel_rfl) (fun d v c a w h => h) (by assumption) ⟨?_, ?_, ?_, Or.inl ⟨?_, ?_⟩, ?_⟩
                           rotate_left
                           · simp only [List.getElem?_toArray, List.getElem?_cons_zero, List.getElem?_cons_succ]; rfl
                           rotate_left
                           · rfl
                           · intro w hSw; (try dsimp only at hSw); go_simp; try (with_reducible rfl)
                           simp only [Act.put, List.setIfInBounds_toArray, List.set_cons_zero, List.set_cons_succ])
                        | (refine wpAnyH_takeL 33 #[true, true, true, true, true, true, true, true, true, true, true, true, true, true, true, true, true, true, true, true, true, true, true, true, true, true, true, true, true, true, true, true, true, true, false, false, false, false, false, false, false, false, false, false] (by kernel_rfl) (by kernel_rfl) (by kernel_rfl) (by kernel_rfl) (fun d v c a w h => h) (by assumption) ⟨?_, ?_, undef, Or.inr ⟨?_, rfl⟩, ?_⟩
                           rotate_left
                           · simp only [List.getElem?_toArray, List.getElem?_cons_zero, List.getElem?_cons_succ]; rfl
                           · rfl
                           simp only [Act.put, List.setIfInBounds_toArray, List.set_cons_zero, List.set_cons_succ])
                      first
                        | (refine wpAnyH_takeL 34 #[true, true, true, true, true, true, true, true, true, true, true, true, true, true, true, true, true, true, true, true, true, true, true, true, true, true, true, true, true, true, true, true, true, true, true, false, false, false, false, false, false, false, false, false] (by kernel_rfl) (by kernel_rfl) (by kernel_rfl) (by kernel_rfl) (fun d v c a w h => h) (by assumption) ⟨?_, ?_, ?_, Or.inl ⟨?_, ?_⟩, ?_⟩
                           rotate_left
                           · simp only [List.getElem?_toArray, List.getElem?_cons_zero, List.getElem?_cons_succ]; rfl
                           rotate_left
                           · rfl
                           · intro w hSw; (try dsimp only at hSw); go_simp; try (with_reducible rfl)
                           simp only [Act.put, List.setIfInBounds_toArray, List.set_cons_zero, List.set_cons_succ])
                        | (refine wpAnyH_takeL 34 #[true, true, true, true, true, true, true, true, true, true, true, true, true, true, true, true, true, true, true, true, true, true, true, true, true, true, true, true, true, true, true, true, true, true, true, false, false, false, false, false, false, false, false, false] (by kernel_rfl) (by kernel_rfl) (by kernel_rfl) (by kernel_rfl) (fun d v c a w h => h) (by assumption) ⟨?_, ?_, undef, Or.inr ⟨?_, rfl⟩, ?_⟩
                           rotate_left
                           · simp only [List.getElem?_toArray, List.getElem?_cons_zero, List.getElem?_cons_succ]; rfl
                           · rfl
                           simp only [Act.put, List.setIfInBounds_toArray, List.set_cons_zero, List.set_cons_succ])
                      as_aux_lemma =>
                        first
                          | (refine wpAnyH_takeL 35 #[true, true, true, true, true, true, true, true, true, true, true, true, true, true, true, true, true, true, true, true, true, true, true, true, true, true, true, true, true, true, true, true, true, true, true, true, false, false, false, false, false, false, false, false] (by kernel_rfl) (by kernel_rfl) (by kernel_rfl) (by kernel_rfl) (fun d v c a w h => h) (by assumption) ⟨?_, ?_, ?_, Or.inl ⟨?_, ?_⟩, ?_⟩
                             rotate_left
                             · simp only [List.getElem?_toArray, List.getElem?_cons_zero, List.getElem?_cons_succ]; rfl
                             rotate_left
                             · rfl
                             · intro w hSw; (try dsimp only at hSw); go_simp; try (with_reducible rfl)
                             simp only [Act.put, List.setIfInBounds_toArray, List.set_cons_zero, List.set_cons_succ])
                          | (refine wpAnyH_takeL 35 #[true, true, true, true, true, true, true, true, true, true, true, true, true, true, true, true, true, true, true, true, true, true, true, true, true, true, true, true, true, true, true, true, true, true, true, true, false, false, false, false, false, false, false, false] (by kernel_rfl) (by kernel_rfl) (by kernel_rfl) (by kernel_rfl) (fun d v c a w h => h) (by assumption) ⟨?_, ?_, undef, Or.inr ⟨?_, rfl⟩, ?_⟩
                             rotate_left
                             · simp only [List.getElem?_toArray, List.getElem?_cons_zero, List.getElem?_cons_succ]; rfl
                             · rfl
                             simp only [Act.put, List.setIfInBounds_toArray, List.set_cons_zero, List.set_cons_succ])
                        first
                          | (refine wpAnyH_takeL 36 #[true, true, true, true, true, true, true, true, true, true, true, true, true, true, true, true, true, true, true, true, true, true, true, true, true, true, true, true, true, true, true, true, true, true, true, true, true, false, false, false, false, false, false, false] (by kernel_rfl) (by kernel_rfl) (by kernel_rfl) (by kernel_rfl) (fun d v c a w h => h) (by assumption) ⟨?_, ?_, ?_, Or.inl ⟨?_, ?_⟩, ?_⟩
                             rotate_left
                             · simp only [List.getElem?_toArray, List.getElem?_cons_zero, List.getElem?_cons_succ]; rfl
                             rotate_left
                             · rfl
                             · intro w hSw; (try dsimp only at hSw); go_simp; try (with_reducible rfl)
                             simp only [Act.put, List.setIfInBounds_toArray, List.set_cons_zero, List.set_cons_succ])
                          | (refine wpAnyH_takeL 36 #[true, true, true, true, true, true, true, true, true, true, true, true, true, true, true, true, true, true, true, true, true, true, true, true, true, true, true, true, true, true, true, true, true, true, true, true, true, false, false, false, false, false, false, false] (by kernel_rfl) (by kernel_rfl) (by kernel_rfl) (by kernel_rfl) (fun d v c a w h => h) (by assumption) ⟨?_, ?_, undef, Or.inr ⟨?_, rfl⟩, ?_⟩
                             rotate_left
                             · simp only [List.getElem?_toArray, List.getElem?_cons_zero, List.getElem?_cons_succ]; rfl
                             · rfl
                             simp only [Act.put, List.setIfInBounds_toArray, List.set_cons_zero, List.set_cons_succ])
                        first
                          | (refine wpAnyH_takeL 37 #[true, true, true, true, true, true, true, true, true, true, true, true, true, true, true, true, true, true, true, true, true, true, true, true, true, true, true, true, true, true, true, true, true, true, true, true, true, true, false, false, false, false, false, false] (by kernel_rfl) (by kernel_rfl) (by kernel_rfl) (by kernel_rfl) (fun d v c a w h => h) (by assumption) ⟨?_, ?_, ?_, Or.inl ⟨?_, ?_⟩, ?_⟩
                             rotate_left
                             · simp only [List.getElem?_toArray, List.getElem?_cons_zero, List.getElem?_cons_succ]; rfl
                             rotate_left
                             · rfl
                             · intro w hSw; (try dsimp only at hSw); go_simp; try (with_reducible rfl)
                             simp only [Act.put, List.setIfInBounds_toArray, List.set_cons_zero, List.set_cons_succ])
                          | (refine wpAnyH_takeL 37 #[true, true, true, true, true, true, true, true, true, true, true, true, true, true, true, true, true, true, true, true, true, true, true, true, true, true, true, true, true, true, true, true, true, true, true, true, true, true, false, false, false, false, false, false] (by kernel_rfl) (by kernel_rfl) (by kernel_rfl) (by kernel_rfl) (fun d v c a w h => h) (by assumption) ⟨?_, ?_, undef, Or.inr ⟨?_, rfl⟩, ?_⟩
                             rotate_left
                             · simp only [List.getElem?_toArray, List.getElem?_cons_zero, List.getElem?_cons_succ]; rfl
                             · rfl
                             simp only [Act.put, List.setIfInBounds_toArray, List.set_cons_zero, List.set_cons_succ])
                        first
                          | (refine wpAnyH_takeL 38 #[true, true, true, true, true, true, true, true, true, true, true, true, true, true, true, true, true, true, true, true, true, true, true, true, true, true, true, true, true, true, true, true, true, true, true, true, true, true, true, false, false, false, false, false] (by kernel_rfl) (by kernel_rfl) (by kernel_rfl) (by kernel_rfl) (fun d v c a w h => h) (by assumption) ⟨?_, ?_, ?_, Or.inl ⟨?_, ?_⟩, ?_⟩
                             rotate_left
                             · simp only [List.getElem?_toArray, List.getElem?_cons_zero, List.getElem?_cons_succ]; rfl
                             rotate_left
                             · rfl
                             · intro w hSw; (try dsimp only at hSw); go_simp; try (with_reducible rfl)
                             simp only [Act.put, List.setIfInBounds_toArray, List.set_cons_zero, List.set_cons_succ])
                          | (refine wpAnyH_takeL 38 #[true, true, true, true, true, true, true, true, true, true, true, true, true, true, true, true, true, true, true, true, true, true, true, true, true, true, true, true, true, true, true, true, true, true, true, true, true, true, true, false, false, false, false, false] (by kernel_rfl) (by kernel_rfl) (by kernel_rfl) (by kernel_rfl) (fun d v c a w h => h) (by assumption) ⟨?_, ?_, undef, Or.inr ⟨?_, rfl⟩, ?_⟩
                             rotate_left
                             · simp only [List.getElem?_toArray, List.getElem?_cons_zero, List.getElem?_cons_succ]; rfl
                             · rfl
                             simp only [Act.put, List.setIfInBounds_toArray, List.set_cons_zero, List.set_cons_succ])
                        first
                          | (refine wpAnyH_takeL 39 #[true, true, true, true, true, true, true, true, true, true, true, true, true, true, true, true, true, true, true, true, true, true, true, true, true, true, true, true, true, true, true, true, true, true, true, true, true, true, true, true, false, false, false, false] (by kernel_rfl) (by kernel_rfl) (by kernel_rfl) (by kernel_rfl) (fun d v c a w h => h) (by assumption) ⟨?_, ?_, ?_, Or.inl ⟨?_, ?_⟩, ?_⟩
                             rotate_left
                             · simp only [List.getElem?_toArray, List.getElem?_cons_zero, List.getElem?_cons_succ]; rfl
                             rotate_left
                             · rfl
                             · intro w hSw; (try dsimp only at hSw); go_simp; try (with_reducible rfl)
                             simp only [Act.put, List.setIfInBounds_toArray, List.set_cons_zero, List.set_cons_succ])
                          | (refine wpAnyH_takeL 39 #[true, true, true, true, true, true, true, true, true, true, true, true, true, true, true, true, true, true, true, true, true, true, true, true, true, true, true, true, true, true, true, true, true, true, true, true, true, true, true, true, false, false, false, false] (by kernel_rfl) (by kernel_rfl) (by kernel_rfl) (by kernel_rfl) (fun d v c a w h => h) (by assumption) ⟨?_, ?_, undef, Or.inr ⟨?_, rfl⟩, ?_⟩
                             rotate_left
                             · simp only [List.getElem?_toArray, List.getElem?_cons_zero, List.getElem?_cons_succ]; rfl
                             · rfl
                             simp only [Act.put, List.setIfInBounds_toArray, List.set_cons_zero, List.set_cons_succ])
                        first
                          | (refine wpAnyH_takeL 40 #[true, true, true, true, true, true, true, true, true, true, true, true, true, true, true, true, true, true, true, true, true, true, true, true, true, true, true, true, true, true, true, true, true, true, true, true, true, true, true, true, true, false, false, false] (by kernel_rfl) (by kernel_rfl) (by kernel_rfl) (by kernel_rfl) (fun d v c a w h => h) (by assumption) ⟨?_, ?_, ?_, Or.inl ⟨?_, ?_⟩, ?_⟩
                             rotate_left
                             · simp only [List.getElem?_toArray, List.getElem?_cons_zero, List.getElem?_cons_succ]; rfl
                             rotate_left
                             · rfl
                             · intro w hSw; (try dsimp only at hSw); go_simp; try (with_reducible rfl)
                             simp only [Act.put, List.setIfInBounds_toArray, List.set_cons_zero, List.set_cons_succ])
                          | (refine wpAnyH_takeL 40 #[true, true, true, true, true, true, true, true, true, true, true, true, true, true, true, true, true, true, true, true, true, true, true, true, true, true, true, true, true, true, true, true, true, true, true, true, true, true, true, true, true, false, false, false] (by kernel_rfl) (by kernel_rfl) (by kernel_rfl) (by kernel_rfl) (fun d v c a w h => h) (by assumption) ⟨?_, ?_, undef, Or.inr ⟨?_, rfl⟩, ?_⟩
                             rotate_left
                             · simp only [List.getElem?_toArray, List.getElem?_cons_zero, List.getElem?_cons_succ]; rfl
                             · rfl
                             simp only [Act.put, List.setIfInBounds_toArray, List.set_cons_zero, List.set_cons_succ])
                        refine wpAnyH_oneL 41 #[true, true, true, true, true, true, true, true, true, true, true, true, true, true, true, true, true, true, true, true, true, true, true, true, true, true, true, true, true, true, true, true, true, true, true, true, true, true, true, true, true, true, false, false] (by kernel_rfl) (by kernel_rfl) ⟨?_, ?_, fun K hK => ?_⟩
                        rotate_left
                        · simp only [List.getElem?_toArray, List.getElem?_cons_zero, List.getElem?_cons_succ]; rfl
                        rw [if_neg (by intro h; cases h)]
                        refine hK.out _ _ hHeld (fun _ => ?_)
                        clear hK K
                        try simp only [Act.put, List.setIfInBounds_toArray, List.set_cons_zero, List.set_cons_succ]
                        as_aux_lemma =>
                          first
                            | (refine wpAnyH_takeL 42 #[true, true, true, true, true, true, true, true, true, true, true, true, true, true, true, true, true, true, true, true, true, true, true, true, true, true, true, true, true, true, true, true, true, true, true, true, true, true, true, true, true, true, true, false] (by kernel_rfl) (by kernel_rfl) (by kernel_rfl) (by kernel_rfl) (fun d v c a w h => h) (by assumption) ⟨?_, ?_, ?_, Or.inl ⟨?_, ?_⟩, ?_⟩
                               rotate_left
                               · simp only [List.getElem?_toArray, List.getElem?_cons_zero, List.getElem?_cons_succ]; rfl
                               rotate_left
                               · rfl
                               · intro w hSw; (try dsimp only at hSw); go_simp; try (with_reducible rfl)
                               simp only [Act.put, List.setIfInBounds_toArray, List.set_cons_zero, List.set_cons_succ])
                            | (refine wpAnyH_takeL 42 #[true, true, true, true, true, true, true, true, true, true, true, true, true, true, true, true, true, true, true, true, true, true, true, true, true, true, true, true, true, true, true, true, true, true, true, true, true, true, true, true, true, true, true, false] (by kernel_rfl) (by kernel_rfl) (by kernel_rfl) (by kernel_rfl) (fun d v c a w h => h) (by assumption) ⟨?_, ?_, undef, Or.inr ⟨?_, rfl⟩, ?_⟩
                               rotate_left
                               · simp only [List.getElem?_toArray, List.getElem?_cons_zero, List.getElem?_cons_succ]; rfl
                               · rfl
                               simp only [Act.put, List.setIfInBounds_toArray, List.set_cons_zero, List.set_cons_succ])
                          first
                            | (refine wpAnyH_takeL 43 #[true, true, true, true, true, true, true, true, true, true, true, true, true, true, true, true, true, true, true, true, true, true, true, true, true, true, true, true, true, true, true, true, true, true, true, true, true, true, true, true, true, true, true, true] (by kernel_rfl) (by kernel_rfl) (by kernel_rfl) (by kernel_rfl) (fun d v c a w h => h) (by assumption) ⟨?_, ?_, ?_, Or.inl ⟨?_, ?_⟩, ?_⟩
                               rotate_left
                               · simp only [List.getElem?_toArray, List.getElem?_cons_zero, List.getElem?_cons_succ]; rfl
                               rotate_left
                               · rfl
                               · intro w hSw; (try dsimp only at hSw); go_simp; try (with_reducible rfl)
                               simp only [Act.put, List.setIfInBounds_toArray, List.set_cons_zero, List.set_cons_succ])
                            | (refine wpAnyH_takeL 43 #[true, true, true, true, true, true, true, true, true, true, true, true, true, true, true, true, true, true, true, true, true, true, true, true, true, true, true, true, true, true, true, true, true, true, true, true, true, true, true, true, true, true, true, true] (by kernel_rfl) (by kernel_rfl) (by kernel_rfl) (by kernel_rfl) (fun d v c a w h => h) (by assumption) ⟨?_, ?_, undef, Or.inr ⟨?_, rfl⟩, ?_⟩
                               rotate_left
                               · simp only [List.getElem?_toArray, List.getElem?_cons_zero, List.getElem?_cons_succ]; rfl
                               · rfl
                               simp only [Act.put, List.setIfInBounds_toArray, List.set_cons_zero, List.set_cons_succ])
                          as_aux_lemma =>
                            refine wpAnyH_done (by kernel_rfl) (NoPanic.normal ?_) _
                            go_wp2
                            go_roundw
                            case rel => exact ⟨i + 1, by go_num, by omega, H6⟩
                            case measure => simp [intOf]; omega
    · obtain rfl : i = M.length := by omega
      clear hlt
      have Z := Lib.hid (zero_lw H.out.a)
      have HA := Lib.hid (H.out.a.below (below_alloc (Below.refl wr.heap.size wr) (.cells #[.slice none 0 0, .int .i64 0, .bool false] 32)))
      obtain ⟨qz, hqz⟩ : ∃ qz, wr.heap.size = qz := ⟨_, rfl⟩
      rw [hqz] at Z
      have HQ := Lib.hid hqz
      clear hqz
      have ZC := Lib.hid (show ∀ wr', LW w wr' [] M base b 0 qz none 0 [] → wr'.cell? { block := qz, off := 0 } = some (.slice none 0 0) ∧ wr'.cell? { block := qz, off := 1 } = some (.int .i64 0) ∧ wr'.cell? { block := qz, off := 2 } = some (.bool false) from fun wr' h => h.cells)
      have ZT := Lib.hid (show ∀ wr', LW w wr' [] M base b 0 qz none 0 [] → Calls Try.prog 16 #[.agg #[.slice none 0 0, .int .i64 0, .bool false], .pointer (some ⟨b, 0, none⟩), .int .u64 1] wr' (fun e w' => e = .returned (.int .i64 0) ∧ Below wr'.heap.size wr' w') from fun wr' h => by have := h.till G.out 1; rw [nil_till] at this; exact this)
      have ZS := Lib.hid (show ∀ wr', LW w wr' [] M base b 0 qz none 0 [] → Calls Try.prog 23 #[.agg #[.slice none 0 0, .int .i64 0, .bool false], .pointer (some ⟨b, 0, none⟩), .int .u64 1, .int .i64 0] wr' (fun e w' => e = .returned (.bool false) ∧ Below wr'.heap.size wr' w') from fun wr' h => by have := h.stays G.out 1 0; rw [nil_sy] at this; exact this)
      have ZM := Lib.hid (show ∀ wr', LW w wr' [] M base b 0 qz none 0 [] → Calls Try.prog 18 #[.agg #[.slice none 0 0, .int .i64 0, .bool false], .pointer (some ⟨b, 0, none⟩), .int .u64 1] wr' (fun e w' => ∃ v, e = .returned v ∧ w'.ownsRow wr'.heap.size 3 1 v 0 [] ∧ Below wr'.heap.size wr' w') from fun wr' h => by have := h.mins G.out 1; rw [nil_mins] at this; exact this)
      go_upto_region 25 with fail
      rw [HQ.out]
      have hcz := ZC.out _ Z.out
      have hca := HA.out.cells
      generalize wr.alloc (.cells #[.slice none 0 0, .int .i64 0, .bool false] 32) = W7 at *
      go_wp2_with (first
        | (go_at_call 16; (with_reducible refine (ZT.out _ Z.out).mono ?_); rintro e w8 ⟨rfl, hb8⟩; have Z8 := Lib.hid (Z.out.below hb8); have A8 := Lib.hid (HA.out.below hb8); have hcz8 := ZC.out _ Z8.out; have hca8 := A8.out.cells; clear hb8)
        | (go_at_call 23; (with_reducible refine (ZS.out _ Z8.out).mono ?_); rintro e w9 ⟨rfl, hb9⟩; have Z9 := Lib.hid (Z8.out.below hb9); have A9 := Lib.hid (A8.out.below hb9); have hcz9 := ZC.out _ Z9.out; have hca9 := A9.out.cells; clear hb9)
        | (go_at_call 18; (with_reducible refine (ZM.out _ Z9.out).mono ?_); rintro e w10 ⟨v10, rfl, ho10, hb10⟩; obtain ⟨A10, c10, rfl, hcc10⟩ := own_slice_cap ho10; have A10' := Lib.hid (A9.out.below hb10); have hca10 := A10'.out.cells; clear hb10 ho10)
        | (go_at_call 16; (with_reducible refine (till_nil A1 ks1.length c1 (neverF [⟨2, n, f⟩]) 1 w10).mono ?_); rintro e w11 ⟨rfl, hb11⟩; have A11 := Lib.hid (A10'.out.below hb11); have hca11 := A11.out.cells; clear hb11)
        | (go_at_call 23; (with_reducible refine (stays_nil A1 ks1.length c1 (neverF [⟨2, n, f⟩]) 1 0 w11).mono ?_); rintro e w12 ⟨rfl, hb12⟩; have A12 := Lib.hid (A11.out.below hb12); clear hb12))
      go_ret
      exact ⟨rfl, A12.out.kt.bel⟩
theorem keeps_any (P : Option Addr) (cs : Nat) (L : List Int) (a1 a2 now : Int) (w : World) (hS : Kd.C (Kd.int .u8) w P L.length L) (hw : ∀ a ∈ L, (Lit.int .u8 a).wf = true) (h1 : (Lit.int .u8 a1).wf = true) (h2 : (Lit.int .u8 a2).wf = true) (h3 : (Lit.int .u16 now).wf = true) :
    Calls Try.prog 8 #[.slice P L.length cs, .int .u8 a1, .int .u8 a2, .int .u16 now] w fun e w' => e = .returned (.bool true) ∧ Below w.heap.size w w' := by
  by_cases h : 30 < L.length
  · exact keeps_skip P cs L.length a1 a2 now w h
  · have k1 : IntKind.u16.min = 0 := rfl
    have k2 : IntKind.u16.max = 65535 := rfl
    exact keeps_in P cs L a1 a2 now w (steps_came hS) (steps_wf hw) (by omega) (wf_u8 h1) (wf_u8 h2) (by simp [Lit.wf] at h3; omega)
end Go.Proofs.Ytonlbeonblpblaa.All
