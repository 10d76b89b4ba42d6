/-
  The bases of a forest's branches: rising, each once; of no forest none. Condition: the forest's cells lie in its block.
-/
import Derived.Test.YtaolpniigjmccaaIter
import Derived.RangeFuncNested
namespace Go.Proofs.Ytaolpniigjmccaa.All
open Go.RowKit Go.Shelf Go.Proofs.YtaolpniigjmccaaW.PrintWords Go.Proofs.Ytaolpniigjmccaa.Wd
set_option linter.unusedVariables false
set_option linter.unusedSimpArgs false
attribute [local go_sem] Oper.semAt_some
theorem own_ne_deferred {W : World} {base : Nat} {e : TypeId} {size n : Nat} {v : Value} {xs : List Value} (h : W.ownsRow base e size v n xs) {D : Nat} {d : Option (List Deferred)} (hd : W.heap[D]? = some (.deferred d)) : some D ≠ v.ownBlock := by
  rcases h.2 with ⟨rfl, _⟩ | ⟨g, cap, cur, rfl, _, hg, _⟩
  · simp [Value.ownBlock]
  · intro e'
    obtain rfl : D = g := by simpa [Value.ownBlock] using e'
    rw [hg] at hd
    cases hd
theorem compactUpTo_len (d : Array Int) : ∀ m, (Lib.compactUpTo d m).length ≤ m
  | 0 => by simp [Lib.compactUpTo]
  | m + 1 => by
    have := compactUpTo_len d m
    rw [Lib.compactUpTo_succ, List.length_append]
    split <;> simp <;> omega
theorem compact_len (xs : List Int) : (Lib.compact xs).length ≤ xs.length := compactUpTo_len _ _
set_option maxRecDepth 100000 in
set_option maxHeartbeats 2000000 in
theorem bases_in (n : Nat) (hn : 3 ≤ n) (b : Nat) (G : List Tw) (w : World) (hA : At w b 69 G) :
    CallsIn Fence.wide n Try.prog 18 #[.pointer (some ⟨b, 0, none⟩)] w fun e w' => ∃ v, e = .returned v ∧ w'.ownsRow w.heap.size 23 1 v (basesF G).length ((basesF G).map (Value.int .u64)) ∧ Below w.heap.size w w' := by
  have h1 : 1 ≤ n := by omega
  obtain ⟨i0, hi, hz0, hz1, hz2⟩ := info_parts u64_info
  refine callsIn_of_wp_marks Try.func18 rfl trivial ?_ rfl
  simp only [Try.ntmps18, List.size_toArray, List.length_cons, List.length_nil, Nat.reduceAdd, Nat.reduceSub, Array.replicate_succ, Array.replicate_zero, List.push_toArray, List.append_toArray, List.nil_append, List.cons_append]
  gi_wp2_with (refine ⟨trivial, ?_⟩; gi_at_call 28; refine (all_in (n - 1) _ _).mono ?_; rintro e w' ⟨rfl, rfl⟩)
  have bP := Boxed.new w 27 (.pointer (some ⟨b, 0, none⟩))
  have bO := Boxed.new (w.alloc (.cells #[.pointer (some ⟨b, 0, none⟩)] 27)) 50 (.slice none 0 0)
  have bN := Boxed.new ((w.alloc (.cells #[.pointer (some ⟨b, 0, none⟩)] 27)).alloc (.cells #[.slice none 0 0] 50)) 27 (.pointer (some ⟨b, 0, none⟩))
  rw [World.size_alloc] at bO
  rw [World.size_alloc, World.size_alloc] at bN
  have hB0 : Below w.heap.size w (((w.alloc (.cells #[.pointer (some ⟨b, 0, none⟩)] 27)).alloc (.cells #[.slice none 0 0] 50)).alloc (.cells #[.pointer (some ⟨b, 0, none⟩)] 27)) := below_alloc (below_alloc (below_alloc (Below.refl _ _) _) _) _
  have hblt := hA.lt
  have hA0 := hA.below hB0
  have hlenL := aliveL_len G 16
  refine wpIn_rangeFunc_ownG rfl h1 (gf := 38) (lb := #[.pointer (some ⟨w.heap.size + 1 + 1, 0, none⟩)]) rfl trivial (enters_of Try.func38 (by kernel_rfl) rfl)
    (all_stops (n - 1) (by omega) (w.heap.size + 1 + 1) b G _ bN hA0) kp_t (kp_b (by simp; omega) (by simp)) (Below.refl _ _) (fun _ => rfl)
    (fun pre W => (((∃ v, Boxed W (w.heap.size + 1) 50 v ∧ W.ownsRow w.heap.size 23 1 v (baseL G pre).length ((baseL G pre).map (Value.int .u64)) ∧ True) ∧ Below w.heap.size w W) ∧ At W b 69 G) ∧ (Boxed W w.heap.size 27 (.pointer (some ⟨b, 0, none⟩)) ∧ Boxed W (w.heap.size + 1 + 1) 27 (.pointer (some ⟨b, 0, none⟩))))
    (fun _ _ _ => False)
    (OwnFrom.and (OwnFrom.and (OwnFrom.and (Own.from (holdsRow_own w.heap.size (w.heap.size + 1) 50 23 1 (fun pre => (baseL G pre).length) (fun pre => (baseL G pre).map (Value.int .u64)) (fun _ _ => True)) _) (ownFrom_below (Nat.le_refl _) (by simp; omega))) (Own.from (at_own b 69 G) _)) (OwnFrom.and (Own.from (boxed_own _ _ _) _) (Own.from (boxed_own _ _ _) _)))
    (fun _ _ _ _ _ hs _ _ => hs)
    ⟨⟨⟨⟨_, bO.alloc _, World.ownsRow_nil _ _ _ _, trivial⟩, hB0⟩, hA0⟩, (bP.alloc _).alloc _, bN⟩
    (fun x => { tmps := #[.pointer (some ⟨b, 0, none⟩), .pointer (some ⟨w.heap.size, 0, none⟩), .slice none 0 0, .pointer (some ⟨w.heap.size + 1, 0, none⟩), .int .i64 x, undef, undef, undef, .pointer (some ⟨b, 0, none⟩), .func (.func 38) #[] #[.pointer (some ⟨w.heap.size + 1 + 1, 0, none⟩)], .int .i64 x, undef, undef, undef, undef, undef, undef, undef, undef, undef, undef, undef, undef, undef, undef, undef, undef], defers := [] }) ?assign ?body ?done ?stop
  case assign =>
    intro l x W K hK
    gi_wp2
    exact hK
  case body =>
    rintro l pre x W ⟨⟨⟨⟨v, hv, hrow, _⟩, hB⟩, hAt⟩, hP, hN⟩ hlt
    have hpl := baseL_len G pre
    have hc := hP.cell
    have PC := parent_calls G b x W hAt
    cases hs : isSon G x with
    | false =>
      rw [hs] at PC
      have hno := baseL_no pre hs
      gi_wp2_with (refine ⟨trivial, (fun h => by cases h), ?_⟩; gi_at_call 16; refine (CallsIn.inRound l (callsIn_wide.2 PC)).mono ?_; rintro e w' ⟨rfl, ⟨m, rfl⟩⟩)
      exact ⟨⟨Nat.le_refl _, fun k o _ hk _ => hk⟩, ⟨rfl, rfl⟩, ⟨⟨⟨⟨v, hv, by rw [hno]; exact hrow, trivial⟩, pw_below_drewN hB _⟩, hAt⟩, hP, hN⟩⟩
    | true =>
      rw [hs] at PC
      have hyes := baseL_yes pre hs
      clear hs
      gi_wp2_with (first
        | (refine ⟨trivial, (fun h => by cases h), ?_⟩; gi_at_call 16; refine (CallsIn.inRound l (callsIn_wide.2 PC)).mono ?_; rintro e w' ⟨rfl, ⟨m, rfl⟩⟩; have hvd : Boxed (W.drewN m) (w.heap.size + 1) 50 v := hv; have hrd : (W.drewN m).ownsRow w.heap.size 23 1 v (baseL G pre).length ((baseL G pre).map (Value.int .u64)) := hrow; have hBd : Below w.heap.size w (W.drewN m) := pw_below_drewN hB m; have hAd : At (W.drewN m) b 69 G := hAt; have hPd : Boxed (W.drewN m) w.heap.size 27 (.pointer (some ⟨b, 0, none⟩)) := hP; have hNd : Boxed (W.drewN m) (w.heap.size + 1 + 1) 27 (.pointer (some ⟨b, 0, none⟩)) := hN; have hKd : KeepsOthers W (W.drewN m) := ⟨Nat.le_refl _, fun k o hk _ => hk⟩; have hKpd : Kp b (w.heap.size + 1 + 1) W (W.drewN m) := ⟨rfl, rfl⟩; generalize W.drewN m = Wd at *; replace hKd := Lib.hid hKd; replace hKpd := Lib.hid hKpd; have hcd := hvd.cell)
        | (gi_at_builtin; refine wpListIn_append_own _ rfl _ _ 50 rfl w.heap.size 23 i0 (.int .u64 0) 1 8 Try.underlying50 hi hz0 hz1 hz2 rfl (by decide) _ _ _ rfl (hrd.alloc _) ⟨Wd.heap.size, 0, none⟩ 1 1 [.int .u64 (parB G x)] rfl rfl (cell_one_new _ _ _) (by simp [Value.oneCell']) (by unfold maxLen; omega) (by omega) (by have := hBd.size; simp; omega) ?_; intro v' w1 hown' hgrow _; obtain ⟨g', cap', rfl⟩ := ownsRow_succ hown'; obtain ⟨hv1, hv2, hr2, hk2, hb2⟩ := hvd.appended (by decide) hrd hBd.size (Nat.le_succ _) hown' hgrow; have hc1 := hv1.cell; have hf1 := hv1.frozen))
      have hp1 := ((hPd.alloc (.cells #[.int .u64 (parB G x)] 23)).kept hgrow (hPd.not_row (by decide) hrd)).other (B' := w.heap.size + 1) (by omega) (.slice (some ⟨g', 0, none⟩) ((baseL G pre).length + 1) cap')
      have hn1 := ((hNd.alloc (.cells #[.int .u64 (parB G x)] 23)).kept hgrow (hNd.not_row (by decide) hrd)).other (B' := w.heap.size + 1) (by omega) (.slice (some ⟨g', 0, none⟩) ((baseL G pre).length + 1) cap')
      exact ⟨(hKd.out.trans hk2).from _, ⟨(hb2.block b hblt).trans hKpd.out.1, hn1.trans hN.symm⟩, ⟨⟨⟨⟨_, hv2, by rw [hyes]; simpa using hr2, trivial⟩, hBd.trans hb2⟩, ⟨hAd.1, (hb2.block b hblt).trans hAd.2⟩⟩, hp1, hn1⟩⟩
  case done =>
    rintro D ys W hD rfl ⟨⟨⟨⟨v, hv, hrow, _⟩, hB⟩, hAt⟩, hP, hN⟩ hK
    have hc := hv.cell
    have hlen : (baseL G (aliveL G 16)).length ≤ 16 := Nat.le_trans (baseL_len _ _) hlenL
    have hll := List.length_mergeSort (le := fun x y : Int => decide (x ≤ y)) (baseL G (aliveL G 16))
    have hDs : w.heap.size ≤ D := by simp at hD; omega
    have SC := sort_own hrow (by omega)
    gi_wp2_with (first
      | (refine ⟨trivial, ?_⟩; gi_at_call 32; refine (callsIn_wide.2 SC).mono ?_; rintro e w2 ⟨rfl, hr2, hg2⟩; have hv2 := hv.kept hg2 (hv.not_row (by decide) hrow); have hK2 := (hg2.block D (Array.getElem?_eq_some_iff.1 hK).1 (own_ne_deferred hrow hK)).trans hK; have hB2 := hB.grown hg2 hB.size (own_base hrow); have CC := compact_own (xs := (baseL G (aliveL G 16)).mergeSort fun x y => decide (x ≤ y)) (by rw [hll]; exact hr2) (by omega) (compact_len _); have hc2 := hv2.cell)
      | (refine ⟨trivial, ?_⟩; gi_at_call 33; refine (callsIn_wide.2 CC).mono ?_; rintro e w3 ⟨v', rfl, hr3, hg3⟩; have hK3 := (hg3.block D (Array.getElem?_eq_some_iff.1 hK2).1 (own_ne_deferred hr2 hK2)).trans hK2; have hB3 := hB2.grown hg3 hB2.size (own_base hr2)))
    refine ⟨by simp, .inl ⟨_, _, rfl, run_takeDeferred hK3, ?_⟩⟩
    exact ⟨_, results_tmp rfl _ _ _, v', rfl, ownsRow_putObj hr3 _ hK3 rfl, hB3.trans (belowK_b (w := w) (Nat.le_refl _) w3 D _ _ hDs hK3 rfl rfl)⟩
  case stop =>
    rintro D c pre W _ _ h _
    exact h.elim
theorem bases_calls (b : Nat) (G : List Tw) (w : World) (hA : At w b 69 G) :
    Calls Try.prog 18 #[.pointer (some ⟨b, 0, none⟩)] w fun e w' => ∃ v, e = .returned v ∧ w'.ownsRow w.heap.size 23 1 v (basesF G).length ((basesF G).map (Value.int .u64)) ∧ Below w.heap.size w w' :=
  callsIn_wide.1 (bases_in 3 (Nat.le_refl _) b G w hA)
/-! ### of no forest -/
set_option maxRecDepth 100000 in
set_option maxHeartbeats 1000000 in
theorem all1_none (n : Nat) (hn : 1 ≤ n) (l Bn : Nat) (J : List Int → World → Prop) (Jx : List Int → World → Prop) (W : World) (hBn : Boxed W Bn 27 (.pointer none)) (h0 : J [] W) :
    CallsIn Fence.wide n Try.prog 38 #[.func (.yield l) #[] #[], .pointer (some ⟨Bn, 0, none⟩)] W fun e W' => (∃ v, e = .returned v) ∧
      ((∃ ys, ys = [] ∧ J ys W') ∨ (∃ pre, False ∧ Jx pre W')) := by
  refine callsIn_of_wp Try.func38 rfl trivial ?_ rfl
  simp only [Try.ntmps38, List.size_toArray, List.length_cons, List.length_nil, Nat.reduceAdd, Nat.reduceSub, Array.replicate_succ, Array.replicate_zero, List.push_toArray, List.append_toArray, List.nil_append, List.cons_append]
  have HB := Lib.hid hBn
  have HJ := Lib.hid h0
  have hc := hBn.cell
  clear hBn h0
  gi_wp2
  gi_loopw [4] (fun v4 wr => ∃ k : Nat, v4 = .int .i64 k ∧ k ≤ 16 ∧ wr = W) (fun v4 _ => 16 - (intOf v4).toNat)
  case atStart => exact ⟨0, rfl, Nat.zero_le _, rfl⟩
  case round =>
    obtain ⟨k, rfl, hk, rfl⟩ := hrel
    by_cases hlt : k < 16
    · have AC := Lib.hid (alive_nil (k : Int) wr)
      have hk1 := Lib.hid (show k + 1 ≤ 16 by omega)
      gi_wp2_with (refine ⟨trivial, ?_⟩; gi_at_call 21; refine (callsIn_wide.2 AC.out).mono ?_; rintro e w' ⟨rfl, rfl⟩)
      all_goals
        refine ⟨(fun _ h => by cases h), ?_⟩
        gi_wp2
        go_roundw
        case rel => exact ⟨k + 1, by go_num, hk1.out, trivial⟩
        case measure => simp [intOf]; omega
    · obtain rfl : k = 16 := by omega
      gi_wp2
      go_end0
      exact ⟨⟨_, rfl⟩, .inl ⟨_, rfl, HJ.out⟩⟩
theorem all_none (n : Nat) (hn : 1 ≤ n) (Bn : Nat) (w : World) (hBn : Boxed w Bn 27 (.pointer none)) (Kq : World → World → Prop) :
    SeqStopsK Fence.wide n Try.prog 38 #[.pointer (some ⟨Bn, 0, none⟩)] (fun x : Int => #[Value.int .i64 x]) Kq (fun ys => ys = []) (fun _ => False) 0 w := fun l J Jx W hW _ _ hY h0 =>
  all1_none n hn l Bn J Jx W ((hW.block Bn hBn.lt).trans hBn) h0
set_option maxRecDepth 100000 in
set_option maxHeartbeats 2000000 in
theorem bases_none_in (n : Nat) (hn : 3 ≤ n) (w : World) :
    CallsIn Fence.wide n Try.prog 18 #[.pointer none] w fun e w' => ∃ v, e = .returned v ∧ w'.ownsRow w.heap.size 23 1 v 0 [] ∧ Below w.heap.size w w' := by
  have h1 : 1 ≤ n := by omega
  refine callsIn_of_wp_marks Try.func18 rfl trivial ?_ rfl
  simp only [Try.ntmps18, List.size_toArray, List.length_cons, List.length_nil, Nat.reduceAdd, Nat.reduceSub, Array.replicate_succ, Array.replicate_zero, List.push_toArray, List.append_toArray, List.nil_append, List.cons_append]
  gi_wp2_with (refine ⟨trivial, ?_⟩; gi_at_call 28; refine (all_in (n - 1) _ _).mono ?_; rintro e w' ⟨rfl, rfl⟩)
  have bO := Boxed.new (w.alloc (.cells #[.pointer none] 27)) 50 (.slice none 0 0)
  have bN := Boxed.new ((w.alloc (.cells #[.pointer none] 27)).alloc (.cells #[.slice none 0 0] 50)) 27 (.pointer none)
  rw [World.size_alloc] at bO
  rw [World.size_alloc, World.size_alloc] at bN
  have hB0 : Below w.heap.size w (((w.alloc (.cells #[.pointer none] 27)).alloc (.cells #[.slice none 0 0] 50)).alloc (.cells #[.pointer none] 27)) := below_alloc (below_alloc (below_alloc (Below.refl _ _) _) _) _
  refine wpIn_rangeFunc_ownG rfl h1 (gf := 38) (lb := #[.pointer (some ⟨w.heap.size + 1 + 1, 0, none⟩)]) rfl trivial (enters_of Try.func38 (by kernel_rfl) rfl)
    (all_none (n - 1) (by omega) (w.heap.size + 1 + 1) _ bN (fun _ _ => True)) (fun _ _ => trivial) (fun _ _ _ _ _ _ _ _ => trivial) (Below.refl _ _) (fun _ => rfl)
    (fun (_ : List Int) W => Boxed W (w.heap.size + 1) 50 (.slice none 0 0) ∧ Below w.heap.size w W)
    (fun _ _ _ => False)
    (OwnFrom.and (Own.from (boxed_own _ _ _) _) (ownFrom_below (Nat.le_refl _) (by simp; omega)))
    (fun _ _ _ _ _ hs _ _ => hs)
    ⟨bO.alloc _, hB0⟩
    (fun x => { tmps := #[.pointer none, .pointer (some ⟨w.heap.size, 0, none⟩), .slice none 0 0, .pointer (some ⟨w.heap.size + 1, 0, none⟩), .int .i64 x, undef, undef, undef, .pointer none, .func (.func 38) #[] #[.pointer (some ⟨w.heap.size + 1 + 1, 0, none⟩)], .int .i64 x, undef, undef, undef, undef, undef, undef, undef, undef, undef, undef, undef, undef, undef, undef, undef, undef], defers := [] }) ?assign ?body ?done ?stop
  case assign =>
    intro l x W K hK
    gi_wp2
    exact hK
  case body =>
    intro l pre x W _ hlt
    exact absurd hlt (Nat.not_lt_zero _)
  case done =>
    rintro D ys W hD rfl ⟨hv, hB⟩ hK
    have hc := hv.cell
    have hDs : w.heap.size ≤ D := by simp at hD; omega
    have SC := sort_own (W := W) (base := w.heap.size) (v := .slice none 0 0) (xs := []) ⟨rfl, .inl ⟨rfl, rfl⟩⟩ (by decide)
    gi_wp2_with (first
      | (refine ⟨trivial, ?_⟩; gi_at_call 32; refine (callsIn_wide.2 SC).mono ?_; rintro e w2 ⟨rfl, hr2, hg2⟩; have hv2 := hv.kept hg2 (by simp [Value.ownBlock]); have hK2 := (hg2.block D (Array.getElem?_eq_some_iff.1 hK).1 (by simp [Value.ownBlock])).trans hK; have hB2 := hB.grown hg2 hB.size (fun k e => by simp [Value.ownBlock] at e); have CC := compact_own (W := w2) (base := w.heap.size) (v := .slice none 0 0) (xs := []) ⟨rfl, .inl ⟨rfl, rfl⟩⟩ (by decide) (compact_len _); have hc2 := hv2.cell)
      | (refine ⟨trivial, ?_⟩; gi_at_call 33; refine (callsIn_wide.2 CC).mono ?_; rintro e w3 ⟨v', rfl, hr3, hg3⟩; have hK3 := (hg3.block D (Array.getElem?_eq_some_iff.1 hK2).1 (by simp [Value.ownBlock])).trans hK2; have hB3 := hB2.grown hg3 hB2.size (fun k e => by simp [Value.ownBlock] at e)))
    refine ⟨by simp, .inl ⟨_, _, rfl, run_takeDeferred hK3, ?_⟩⟩
    exact ⟨_, results_tmp rfl _ _ _, v', rfl, ownsRow_putObj (hr3 : w3.ownsRow w.heap.size 23 1 v' 0 []) _ hK3 rfl, hB3.trans (belowK_b (w := w) (Nat.le_refl _) w3 D _ _ hDs hK3 rfl rfl)⟩
  case stop =>
    rintro D c pre W _ _ h _
    exact h.elim
theorem bases_nil (w : World) : Calls Try.prog 18 #[.pointer none] w fun e w' => ∃ v, e = .returned v ∧ w'.ownsRow w.heap.size 23 1 v 0 [] ∧ Below w.heap.size w w' :=
  callsIn_wide.1 (bases_none_in 3 (Nat.le_refl _) w)
end Go.Proofs.Ytaolpniigjmccaa.All
