/-
  The document's Bases in Go's memory: out of each branch one number, put in where it belongs. No condition but that the list lies as its rows say.
-/
import Derived.Test.YtaolpniigjmccaaPMidP
import Derived.Test.YtaolpniigjmccaaPMid
namespace Go.Proofs.Ytaolpniigjmccaa.All
open Go.RowKit Go.Proofs.YtaolpniigjmccaaW.PrintWords Go.Proofs.YtaolpniigjmccaaW.PrintLast Go.Proofs.YtaolpniigjmccaaW.PrintMore Go.Proofs.Ytaolpniigjmccaa.Wd
set_option linter.unusedVariables false
set_option linter.unusedSimpArgs false
private theorem ym (motive : Option Value → Sort _) (h1 : (b : Bool) → motive (some (.bool b))) (h2 : (x : Option Value) → motive x) : Go.yielded.match_1 motive (some undef) h1 h2 = h2 (some undef) := rfl
attribute [local go_sem, local simp] ym
theorem own_below {w w2 : World} {base : Nat} {e : TypeId} {size n : Nat} {v : Value} {xs : List Value} (h : w.ownsRow base e size v n xs) (hb : Below w.heap.size w w2) : w2.ownsRow base e size v n xs :=
  ⟨h.1, h.2.imp id fun ⟨g, cap, cur, e1, e2, e3, e4⟩ => ⟨g, cap, cur, e1, e2, (hb.block g (Array.getElem?_eq_some_iff.1 e3).1).trans e3, e4⟩⟩
theorem own_mono1 {w : World} {base base' : Nat} {e : TypeId} {size n : Nat} {v : Value} {xs : List Value} (h : w.ownsRow base e size v n xs) (hb : base' ≤ base) : w.ownsRow base' e size v n xs :=
  ⟨h.1, h.2.imp id fun ⟨g, cap, cur, e1, e2, e3⟩ => ⟨g, cap, cur, e1, Nat.le_trans hb e2, e3⟩⟩
theorem own_slice_cap {w : World} {base e size n : Nat} {v : Value} {xs : List Value} (h : w.ownsRow base e size v n xs) : ∃ A c, v = .slice A n c ∧ n ≤ c := by
  rcases h.2 with ⟨rfl, rfl⟩ | ⟨b, cap, cur, rfl, _, _, hc, _⟩
  · exact ⟨_, _, rfl, Nat.le_refl _⟩
  · exact ⟨_, _, rfl, hc⟩
theorem own_cell {w : World} {base e n c : Nat} {A : Option Addr} {xs : List Int} (h : w.ownsRow base e 1 (.slice A n c) n (xs.map (Value.int .u64))) {k : Nat} (hk : k < xs.length) : ∃ q, A = some ⟨q, 0, none⟩ ∧ w.cell? { block := q, off := k } = some (.int .u64 xs[k]) := by
  have hn : n = xs.length := by have := h.1; simpa using this.symm
  rcases h.2 with ⟨_, h0⟩ | ⟨g, cap, cur, hv, _, hh, _, _, _, ht⟩
  · omega
  · have hA : A = some ⟨g, 0, none⟩ := by injection hv
    refine ⟨g, hA, (cell_of_row w g k cur _ (0, 0) hh).trans ?_⟩
    have e : (cur.toList.take (n * 1))[k]? = some (.int .u64 xs[k]) := by rw [ht, List.getElem?_map, List.getElem?_eq_getElem hk]; rfl
    rw [List.getElem?_take] at e
    split at e
    · simpa using e
    · cases e
theorem own_empty1 (w : World) (base : Nat) (e : TypeId) (g : Nat) (hb : base ≤ g) (hg : g = w.heap.size) : (w.alloc (.cells #[] e)).ownsRow base e 1 (.slice (some ⟨g, 0, none⟩) 0 0) 0 [] := by
  subst hg
  exact ⟨by simp, .inr ⟨w.heap.size, 0, #[], rfl, hb, heap_alloc_new w _, Nat.le_refl _, Nat.zero_le _, by simp, by simp⟩⟩
theorem reads_one {w : World} {q : Nat} {t : TypeId} {u : Value} (h : w.heap[q]? = some (.cells #[u] t)) : Reads w (q + 1) 1 (some ⟨q, 0, none⟩) 1 [u] := by
  refine ⟨rfl, fun _ => ⟨_, rfl, Nat.lt_succ_self _, fun j v hv => ?_⟩⟩
  have e1 : Addr.add ⟨q, 0, none⟩ j = ⟨q, j, none⟩ := by
    unfold Addr.add
    split
    · subst_vars; rfl
    · simp
  rw [e1, cell_of_row _ _ j _ _ (0, 0) h]
  simpa using hv
theorem below_via1 {B : Nat} {a X cur w' : World} {row : Option Nat} (hX : Below B a X) (hg : cur.grownBy w' row) (e1 : cur.heap = X.heap) (e2 : cur.os = X.os) (e3 : cur.tape = X.tape) (e4 : cur.output = X.output) (hB : B ≤ X.heap.size) (hr : ∀ k, row = some k → B ≤ k) : Below B a w' :=
  Below.grown (w := cur) ⟨e2.trans hX.os, e3.trans hX.tape, e4.trans hX.output, by rw [e1]; exact hX.size, fun k hk => by rw [e1]; exact hX.block k hk⟩ hg (by rw [e1]; exact hB) hr
theorem reads_cut1 {w : World} {B n k c : Nat} {A : Option Addr} {xs : List Value} (h : Reads w B 1 A n xs) (hk : k ≤ n) (hc : n ≤ c) : Reads w B 1 (if c = k then A else A.map (·.add k)) (n - k) (xs.drop k) := by
  have := h.cut hk hc
  rwa [Nat.mul_one] at this
theorem reads_take1 {w : World} {B n k : Nat} {A : Option Addr} {xs : List Value} (h : Reads w B 1 A n xs) (hk : k ≤ n) : Reads w B 1 A k (xs.take k) := by
  have := Reads.take h hk
  rwa [Nat.mul_one] at this
theorem xat_row_lt {w : World} {g blk c : Nat} {X : List Br} (h : XAt w g (some ⟨blk, 0, none⟩) c X) (hn : 0 < X.length) : blk < w.heap.size := by
  obtain ⟨b, cs, e, h2, _⟩ := h.row (fun e => by rw [e] at hn; exact absurd hn (Nat.lt_irrefl _))
  injection e with e
  injection e with e _
  subst e
  exact (Array.getElem?_eq_some_iff.1 h2).1
theorem own_put {w : World} {base : Nat} {e : TypeId} {v : Value} {L : List Int} {x : Int} {k : Nat} (hk : k ≤ L.length) (h : w.ownsRow base e 1 v (0 + k + 1 + (L.length - k)) ([] ++ (L.map (Value.int .u64)).take k ++ [Value.int .u64 x] ++ (L.map (Value.int .u64)).drop k)) :
    w.ownsRow base e 1 v (L.take k ++ [x] ++ L.drop k).length ((L.take k ++ [x] ++ L.drop k).map (Value.int .u64)) := by
  have e1 : (L.take k ++ [x] ++ L.drop k).length = 0 + k + 1 + (L.length - k) := by simp; omega
  have e2 : (L.take k ++ [x] ++ L.drop k).map (Value.int .u64) = [] ++ (L.map (Value.int .u64)).take k ++ [Value.int .u64 x] ++ (L.map (Value.int .u64)).drop k := by simp
  rw [e1, e2]
  exact h
theorem own_put0 {w : World} {base : Nat} {e : TypeId} {v : Value} {L : List Int} {x : Int} (h : w.ownsRow base e 1 v (0 + L.length + 1 + 0) ([] ++ (L.map (Value.int .u64)).take L.length ++ [Value.int .u64 x] ++ [])) :
    w.ownsRow base e 1 v (L.take L.length ++ [x] ++ L.drop L.length).length ((L.take L.length ++ [x] ++ L.drop L.length).map (Value.int .u64)) := by
  refine own_put (Nat.le_refl _) ?_
  rw [Nat.sub_self, List.drop_of_length_le (by simp)]
  exact h
/-- What a round keeps. -/
structure RB (w wr : World) (g : Nat) (A : Option Addr) (c : Nat) (X : List Br) (v : Value) (L : List Int) : Prop where
  x : XAt wr g A c X
  own : wr.ownsRow w.heap.size 23 1 v L.length (L.map (Value.int .u64))
  bel : Below w.heap.size w wr
theorem RB.below {w wr w2 : World} {g : Nat} {A : Option Addr} {c : Nat} {X : List Br} {v : Value} {L : List Int} (h : RB w wr g A c X v L) (hb : Below wr.heap.size wr w2) : RB w w2 g A c X v L :=
  ⟨h.x.below hb, own_below h.own hb, h.bel.trans (hb.mono h.bel.size)⟩
set_option maxRecDepth 100000 in
set_option maxHeartbeats 4000000 in
theorem rbases_calls {X : List Br} {g c : Nat} {A : Option Addr} {w : World} (h : XAt w g A c X) (hl : X.length ≤ 16) :
    Calls Try.prog 27 #[.pointer (some ⟨g, 0, none⟩)] w fun e w' => ∃ v, e = .returned v ∧ w'.ownsRow w.heap.size 23 1 v (insL X).length ((insL X).map (Value.int .u64)) ∧ Below w.heap.size w w' := by
  obtain ⟨i0, hi, hz0, hz1, hz2⟩ := info_parts u64_info
  have hi' := Lib.hid hi
  clear hi
  have HI := Lib.hid (RB.mk (v := .slice none 0 0) (L := insL (X.take 0)) h ⟨rfl, .inl ⟨rfl, rfl⟩⟩ (Below.refl w.heap.size w))
  clear h
  go_enter Try.func27, Try.ntmps27
  go_wp2
  go_loopw [3, 4] (fun v3 v4 wr => ∃ i : Nat, v4 = .int .i64 i ∧ i ≤ X.length ∧ Hid (RB w wr g A c X v3 (insL (X.take i)))) (fun _ v4 _ => X.length - (intOf v4).toNat)
  case atStart => exact ⟨0, rfl, Nat.zero_le _, HI⟩
  case round =>
    clear HI
    obtain ⟨i, rfl, hk, HI⟩ := hrel
    obtain ⟨A3, c3, rfl, hc3⟩ := own_slice_cap HI.out.own
    have hcell := HI.out.x.cell
    by_cases hlt : i < X.length
    · obtain ⟨blk, hA, e0, e1, e2, e3⟩ := HI.out.x.row.at hlt
      subst hA
      have hlen : (insL (X.take i)).length ≤ 16 := Nat.le_trans (insL_len _) (by rw [List.length_take]; omega)
      have HT := Lib.hid (insL_take hlt)
      have hi1 := Lib.hid (show i + 1 ≤ X.length by omega)
      have hme : X.length - (i + 1) < X.length - i := by omega
      generalize insL (X.take i) = L at *
      generalize X[i].b = x at *
      clear e0 e1 e3
      go_wp2
      go_loopw [5] (fun v5 w5 => ∃ k : Nat, v5 = .int .i64 k ∧ k ≤ L.length ∧ Hid (∀ j (h : j < L.length), j < k → L[j] < x) ∧ Hid (RB w w5 g (some ⟨blk, 0, none⟩) c X (.slice A3 L.length c3) L) ∧ w5.cell? { block := g, off := 0 } = some (.slice (some { block := blk, off := 0 }) X.length c) ∧ w5.cell? { block := blk, off := i * 4 + 2 } = some (.int .u64 x)) (fun v5 _ => L.length - (intOf v5).toNat)
      case atStart => exact ⟨0, rfl, Nat.zero_le _, fun j _ h => absurd h (Nat.not_lt_zero _), HI, hcell, e2⟩
      case round =>
        clear HI hcell e2
        obtain ⟨k, rfl, hk5, HLO, HI, hcell, e2⟩ := hrel
        by_cases hlk : k < L.length
        · obtain ⟨q, rfl, f0⟩ := own_cell HI.out.own hlk
          by_cases hy : L[k] < x
          · have hd : decide (L[k] < x) = true := decide_eq_true hy
            have HL2 := Lib.hid (show ∀ j (h : j < L.length), j < k + 1 → L[j] < x from fun j h hj => by
              by_cases e : j < k
              · exact HLO.out j h e
              · obtain rfl : j = k := by omega
                exact hy)
            have hk6 := Lib.hid (show k + 1 ≤ L.length by omega)
            clear hy
            generalize L[k] = y at *
            go_upto_region 6 with fail
            go_quiet (fail)
            go_wp2
            go_roundw
            case rel => exact ⟨k + 1, by go_num, hk6.out, HL2, Lib.hid (HI.out.below (pw_below_drewN (Below.refl _ _) _)), hcell, e2⟩
            case measure => simp [intOf]; omega
          · have hd : decide (L[k] < x) = false := decide_eq_false hy
            by_cases hq : L[k] = x
            · have hqe : (L[k] == x) = true := by simpa using hq
              have HS := Lib.hid (insU_same L k x hlk HLO.out hq)
              clear hy hq HLO
              generalize L[k] = y at *
              go_upto_region 6 with fail
              go_quiet (fail)
              go_upto_region 8 with fail
              go_quiet (fail)
              go_wp2
              go_roundw
              case rel => exact ⟨i + 1, by go_num, hi1.out, by rw [HT.out, HS.out]; exact Lib.hid (HI.out.below (pw_below_drewN (Below.refl _ _) _))⟩
              case measure => simp [intOf]; omega
            · have hqe : (L[k] == x) = false := by simpa using hq
              have HS := Lib.hid (insU_put L k x hk5 HLO.out (fun h => by omega))
              clear hy hq HLO
              generalize L[k] = y at *
              go_upto_region 6 with fail
              go_quiet (fail)
              revert nq; intro nq1
              go_upto_region 8 with fail
              go_quiet (fail)
              revert nq; intro nq2
              go_upto_region 9 with fail
              refine wp_region_z_drew (S := fun w' => w'.cell? { block := g, off := 0 } = some (.slice (some { block := blk, off := 0 }) X.length c) ∧ w'.cell? { block := blk, off := i * 4 + 2 } = some (.int .u64 x)) (z := 19) (by kernel_rfl) ⟨hcell, e2⟩ (fun hHeld => ?_)
              have q0 : (0 : Int) ≤ (k : Int) := by omega
              have q1 : (k : Int) ≤ (L.length : Int) := by omega
              have q2 : (k : Int) ≤ (c3 : Int) := by omega
              refine wpAnyZ_take1 1 rfl (by decide) (by kernel_rfl) (by kernel_rfl) (by kernel_rfl) (by kernel_rfl) (fun d v c a w h => by cases d <;> exact h) (by assumption) ⟨?_, ?_, ?_, Or.inl ⟨?_, ?_⟩, ?_⟩
              rotate_left
              · simp only [List.getElem?_toArray, List.getElem?_cons_zero, List.getElem?_cons_succ]; rfl
              rotate_left
              · rfl
              · intro w hSw; (try dsimp only at hSw); go_simp; try (with_reducible rfl)
              simp only [Act.put, List.setIfInBounds_toArray, List.set_cons_zero, List.set_cons_succ]
              refine wpAnyZ_take1 2 rfl (by decide) (by kernel_rfl) (by kernel_rfl) (by kernel_rfl) (by kernel_rfl) (fun d v c a w h => by cases d <;> exact h) (by assumption) ⟨?_, ?_, ?_, Or.inl ⟨?_, ?_⟩, ?_⟩
              rotate_left
              · simp only [List.getElem?_toArray, List.getElem?_cons_zero, List.getElem?_cons_succ]; rfl
              rotate_left
              · rfl
              · intro w hSw; (try dsimp only at hSw); go_simp; try (with_reducible rfl)
              simp only [Act.put, List.setIfInBounds_toArray, List.set_cons_zero, List.set_cons_succ]
              refine wpAnyZ_take1 3 rfl (by decide) (by kernel_rfl) (by kernel_rfl) (by kernel_rfl) (by kernel_rfl) (fun d v c a w h => by cases d <;> exact h) (by assumption) ⟨?_, ?_, ?_, Or.inl ⟨?_, ?_⟩, ?_⟩
              rotate_left
              · simp only [List.getElem?_toArray, List.getElem?_cons_zero, List.getElem?_cons_succ]; rfl
              rotate_left
              · rfl
              · intro w hSw; (try dsimp only at hSw); go_simp; try (with_reducible rfl)
              simp only [Act.put, List.setIfInBounds_toArray, List.set_cons_zero, List.set_cons_succ]
              refine wpAnyZ_take1 5 rfl (by decide) (by kernel_rfl) (by kernel_rfl) (by kernel_rfl) (by kernel_rfl) (fun d v c a w h => by cases d <;> exact h) (by assumption) ⟨?_, ?_, ?_, Or.inl ⟨?_, ?_⟩, ?_⟩
              rotate_left
              · simp only [List.getElem?_toArray, List.getElem?_cons_zero, List.getElem?_cons_succ]; rfl
              rotate_left
              · rfl
              · intro w hSw; (try dsimp only at hSw); go_simp; try (with_reducible rfl)
              simp only [Act.put, List.setIfInBounds_toArray, List.set_cons_zero, List.set_cons_succ]
              refine wpAnyZ_take1 6 rfl (by decide) (by kernel_rfl) (by kernel_rfl) (by kernel_rfl) (by kernel_rfl) (fun d v c a w h => by cases d <;> exact h) (by assumption) ⟨?_, ?_, ?_, Or.inl ⟨?_, ?_⟩, ?_⟩
              rotate_left
              · simp only [List.getElem?_toArray, List.getElem?_cons_zero, List.getElem?_cons_succ]; rfl
              rotate_left
              · rfl
              · intro w hSw; (try dsimp only at hSw); go_simp; try (with_reducible rfl)
              simp only [Act.put, List.setIfInBounds_toArray, List.set_cons_zero, List.set_cons_succ]
              refine wpAnyZ_take1 7 rfl (by decide) (by kernel_rfl) (by kernel_rfl) (by kernel_rfl) (by kernel_rfl) (fun d v c a w h => by cases d <;> exact h) (by assumption) ⟨?_, ?_, ?_, Or.inl ⟨?_, ?_⟩, ?_⟩
              rotate_left
              · simp only [List.getElem?_toArray, List.getElem?_cons_zero, List.getElem?_cons_succ]; rfl
              rotate_left
              · rfl
              · intro w hSw; (try dsimp only at hSw); go_simp; try (with_reducible rfl)
              simp only [Act.put, List.setIfInBounds_toArray, List.set_cons_zero, List.set_cons_succ]
              refine wpAnyZ_take1 8 rfl (by decide) (by kernel_rfl) (by kernel_rfl) (by kernel_rfl) (by kernel_rfl) (fun d v c a w h => by cases d <;> exact h) (by assumption) ⟨?_, ?_, ?_, Or.inl ⟨?_, ?_⟩, ?_⟩
              rotate_left
              · simp only [List.getElem?_toArray, List.getElem?_cons_zero, List.getElem?_cons_succ]; rfl
              rotate_left
              · rfl
              · intro w hSw; (try dsimp only at hSw); go_simp; try (with_reducible rfl)
              simp only [Act.put, List.setIfInBounds_toArray, List.set_cons_zero, List.set_cons_succ]
              refine wpAnyZ_take1 9 rfl (by decide) (by kernel_rfl) (by kernel_rfl) (by kernel_rfl) (by kernel_rfl) (fun d v c a w h => by cases d <;> exact h) (by assumption) ⟨?_, ?_, ?_, Or.inl ⟨?_, ?_⟩, ?_⟩
              rotate_left
              · simp only [List.getElem?_toArray, List.getElem?_cons_zero, List.getElem?_cons_succ]; rfl
              rotate_left
              · rfl
              · intro w hSw; (try dsimp only at hSw); go_simp; try (with_reducible rfl)
              simp only [Act.put, List.setIfInBounds_toArray, List.set_cons_zero, List.set_cons_succ]
              refine wpAnyZ_take1 10 rfl (by decide) (by kernel_rfl) (by kernel_rfl) (by kernel_rfl) (by kernel_rfl) (fun d v c a w h => by cases d <;> exact h) (by assumption) ⟨?_, ?_, ?_, Or.inl ⟨?_, ?_⟩, ?_⟩
              rotate_left
              · simp only [List.getElem?_toArray, List.getElem?_cons_zero, List.getElem?_cons_succ]; rfl
              rotate_left
              · rfl
              · intro w hSw; (try dsimp only at hSw); go_simp; try (with_reducible rfl)
              simp only [Act.put, List.setIfInBounds_toArray, List.set_cons_zero, List.set_cons_succ]
              refine wpAnyZ_take1 11 rfl (by decide) (by kernel_rfl) (by kernel_rfl) (by kernel_rfl) (by kernel_rfl) (fun d v c a w h => by cases d <;> exact h) (by assumption) ⟨?_, ?_, ?_, Or.inl ⟨?_, ?_⟩, ?_⟩
              rotate_left
              · simp only [List.getElem?_toArray, List.getElem?_cons_zero, List.getElem?_cons_succ]; rfl
              rotate_left
              · rfl
              · intro w hSw; (try dsimp only at hSw); go_simp; try (with_reducible rfl)
              simp only [Act.put, List.setIfInBounds_toArray, List.set_cons_zero, List.set_cons_succ]
              refine wpAnyZ_take1 12 rfl (by decide) (by kernel_rfl) (by kernel_rfl) (by kernel_rfl) (by kernel_rfl) (fun d v c a w h => by cases d <;> exact h) (by assumption) ⟨?_, ?_, ?_, Or.inl ⟨?_, ?_⟩, ?_⟩
              rotate_left
              · simp only [List.getElem?_toArray, List.getElem?_cons_zero, List.getElem?_cons_succ]; rfl
              rotate_left
              · rfl
              · intro w hSw; (try dsimp only at hSw); go_simp; try (with_reducible rfl)
              simp only [Act.put, List.setIfInBounds_toArray, List.set_cons_zero, List.set_cons_succ]
              refine wpAnyZ_take1 15 rfl (by decide) (by kernel_rfl) (by kernel_rfl) (by kernel_rfl) (by kernel_rfl) (fun d v c a w h => by cases d <;> exact h) (by assumption) ⟨?_, ?_, ?_, Or.inl ⟨?_, ?_⟩, ?_⟩
              rotate_left
              · simp only [List.getElem?_toArray, List.getElem?_cons_zero, List.getElem?_cons_succ]; rfl
              rotate_left
              · rfl
              · intro w hSw; (try dsimp only at hSw); go_simp; try (with_reducible rfl)
              simp only [Act.put, List.setIfInBounds_toArray, List.set_cons_zero, List.set_cons_succ]
              refine wpAnyZ_take1 16 rfl (by decide) (by kernel_rfl) (by kernel_rfl) (by kernel_rfl) (by kernel_rfl) (fun d v c a w h => by cases d <;> exact h) (by assumption) ⟨?_, ?_, ?_, Or.inl ⟨?_, ?_⟩, ?_⟩
              rotate_left
              · simp only [List.getElem?_toArray, List.getElem?_cons_zero, List.getElem?_cons_succ]; rfl
              rotate_left
              · rfl
              · intro w hSw; (try dsimp only at hSw); go_simp; try (with_reducible rfl)
              simp only [Act.put, List.setIfInBounds_toArray, List.set_cons_zero, List.set_cons_succ]
              refine wpAnyZ_take1 17 rfl (by decide) (by kernel_rfl) (by kernel_rfl) (by kernel_rfl) (by kernel_rfl) (fun d v c a w h => by cases d <;> exact h) (by assumption) ⟨?_, ?_, ?_, Or.inl ⟨?_, ?_⟩, ?_⟩
              rotate_left
              · simp only [List.getElem?_toArray, List.getElem?_cons_zero, List.getElem?_cons_succ]; rfl
              rotate_left
              · rfl
              · intro w hSw; (try dsimp only at hSw); go_simp; try (with_reducible rfl)
              simp only [Act.put, List.setIfInBounds_toArray, List.set_cons_zero, List.set_cons_succ]
              have HIW := Lib.hid (HI.out.below (w2 := (World.drewN (World.drewN _ _) _).drew) (below_drew (pw_below_drewN (pw_below_drewN (Below.refl _ _) nq1) nq2)))
              generalize (World.drewN (World.drewN _ nq1) nq2).drew = W at *
              have hWz := HIW.out.bel.size
              have hWb := xat_row_lt HIW.out.x (by omega)
              have hWg := HIW.out.x.lt
              have RW := Reads.of_own HIW.out.own
              have R1W := Lib.hid (reads_take1 RW (k := k) (by omega))
              have R2W := Lib.hid (reads_cut1 RW (k := k) hk5 hc3)
              have R3W := Lib.hid (show Reads W W.heap.size 1 (some { block := q, off := k }) (L.length - k) ((L.map (Value.int .u64)).drop k) from by
                have h := R2W.out
                rw [if_neg (by omega)] at h
                have e : Option.map (fun x => Addr.add x k) (some { block := q, off := 0 }) = some { block := q, off := k } := by
                  show some (Addr.add _ _) = _
                  unfold Addr.add
                  split
                  · subst_vars; rfl
                  · simp
                rw [e] at h
                exact h)
              clear RW
              have KS := Lib.hid (fun (w' : World) (h : Below W.heap.size W w') => (⟨(h.cell (p := { block := g, off := 0 }) hWg).trans hHeld.1, (h.cell (p := { block := blk, off := i * 4 + 2 }) hWb).trans hHeld.2⟩ : w'.cell? { block := g, off := 0 } = some (.slice (some { block := blk, off := 0 }) X.length c) ∧ w'.cell? { block := blk, off := i * 4 + 2 } = some (.int .u64 x)))
              have hx1 := Lib.hid (show 0 + k ≤ maxLen ∧ (0 + k) * 8 ≤ 140737488355328 ∧ 0 + k + 1 ≤ maxLen ∧ (0 + k + 1) * 8 ≤ 140737488355328 ∧ 0 + k + 1 + (L.length - k) ≤ maxLen ∧ (0 + k + 1 + (L.length - k)) * 8 ≤ 140737488355328 by unfold maxLen; omega)
              have o1 := Lib.hid (show ∀ u ∈ (L.map (Value.int .u64)).take k, u.oneCell' = true from fun u hu => by obtain ⟨a, _, rfl⟩ := List.mem_map.1 (List.mem_of_mem_take hu); rfl)
              have o2 := Lib.hid (show ∀ u ∈ (L.map (Value.int .u64)).drop k, u.oneCell' = true from fun u hu => by obtain ⟨a, _, rfl⟩ := List.mem_map.1 (List.mem_of_mem_drop hu); rfl)
              clear hHeld hcell e2 HI
              refine wpAnyZ_ready (rs := [0, 13]) (by kernel_rfl) (by simp) ?_
              refine AllReadyZ.cons1 ⟨?_, ?_, fun K hK => ?_⟩ ?_
              rotate_left
              · simp only [List.getElem?_toArray, List.getElem?_cons_zero, List.getElem?_cons_succ]; rfl
              go_simp
              refine hK.out _ _ (fun _ => ?_) (fun _ => ?_)
              · exact (KS.out _ (below_alloc (Below.refl _ _) _))
              clear hK K
              try simp only [Act.put, List.setIfInBounds_toArray, List.set_cons_zero, List.set_cons_succ]
              refine wpAnyZ_ready (rs := [4, 13]) (by kernel_rfl) (by simp) ?_
              refine AllReadyZ.cons1 ⟨?_, ?_, fun K hK => ?_⟩ ?_
              rotate_left
              · simp only [List.getElem?_toArray, List.getElem?_cons_zero, List.getElem?_cons_succ]; rfl
              refine step_append_any _ rfl (.tmp 55) (.tmp 58) 50 rfl W.heap.size 23 i0 _ 1 8 Try.underlying50 hi'.out hz0 hz1 hz2 rfl (by decide) (.slice (some ⟨W.heap.size, 0, none⟩) 0 0) 0 [] rfl (own_empty1 W W.heap.size 23 W.heap.size (Nat.le_refl _) rfl) W.heap.size _ k c3 ((L.map (Value.int .u64)).take k) rfl (R1W.out.alloc (Nat.le_refl _) _) o1.out hx1.out.1 hx1.out.2.1 (by simp) ?_
              intro v1 w1 ho1 hg1 ha1
              have hb1 : Below W.heap.size W w1 := below_via1 (below_alloc (Below.refl _ W) (.cells #[] 23)) hg1 rfl rfl rfl rfl (by simp) (own_base (own_empty1 W W.heap.size 23 W.heap.size (Nat.le_refl _) rfl))
              have ks1 := KS.out _ hb1
              replace hb1 := Lib.hid hb1
              replace ho1 := Lib.hid ho1
              replace hg1 := Lib.hid hg1
              clear ha1
              refine hK.out _ _ (fun _ => ?_) (fun _ => ?_)
              · exact ks1
              clear hK K
              try simp only [Act.put, List.setIfInBounds_toArray, List.set_cons_zero, List.set_cons_succ]
              refine wpAnyZ_ready (rs := [13]) (by kernel_rfl) (by simp) ?_
              refine AllReadyZ.cons1 ⟨?_, ?_, fun K hK => ?_⟩ ?_
              rotate_left
              · simp only [List.getElem?_toArray, List.getElem?_cons_zero, List.getElem?_cons_succ]; rfl
              go_simp
              refine hK.out _ _ (fun _ => ?_) (fun _ => ?_)
              · exact (KS.out _ (below_alloc hb1.out _))
              clear hK K
              try simp only [Act.put, List.setIfInBounds_toArray, List.set_cons_zero, List.set_cons_succ]
              refine wpAnyZ_ready (rs := [14]) (by kernel_rfl) (by simp) ?_
              refine AllReadyZ.cons1 ⟨?_, ?_, fun K hK => ?_⟩ ?_
              rotate_left
              · simp only [List.getElem?_toArray, List.getElem?_cons_zero, List.getElem?_cons_succ]; rfl
              refine step_append_any _ rfl (.tmp 59) (.tmp 68) 50 rfl W.heap.size 23 i0 _ 1 8 Try.underlying50 hi'.out hz0 hz1 hz2 rfl (by decide) v1 (0 + k) ([] ++ (L.map (Value.int .u64)).take k) rfl (World.ownsRow.alloc ho1.out (.cells #[.int .u64 x] 23)) _ _ 1 1 [.int .u64 x] rfl (reads_one (heap_alloc_new w1 (.cells #[.int .u64 x] 23))) (by simp [Value.oneCell']) hx1.out.2.2.1 hx1.out.2.2.2.1 (below_alloc hb1.out (.cells #[.int .u64 x] 23)).size ?_
              intro v2 w2 ho2 hg2 ha2
              have hb2 : Below W.heap.size W w2 := below_via1 (below_alloc hb1.out (.cells #[.int .u64 x] 23)) hg2 rfl rfl rfl rfl (below_alloc hb1.out (.cells #[.int .u64 x] 23)).size (own_base ho1.out)
              have ks2 := KS.out _ hb2
              replace hb2 := Lib.hid hb2
              replace ho2 := Lib.hid ho2
              replace hg2 := Lib.hid hg2
              clear ha2
              refine hK.out _ _ (fun _ => ?_) (fun _ => ?_)
              · exact ks2
              clear hK K
              try simp only [Act.put, List.setIfInBounds_toArray, List.set_cons_zero, List.set_cons_succ]
              refine wpAnyZ_ready (rs := [18]) (by kernel_rfl) (by simp) ?_
              refine AllReadyZ.cons1 ⟨?_, ?_, fun K hK => ?_⟩ ?_
              rotate_left
              · simp only [List.getElem?_toArray, List.getElem?_cons_zero, List.getElem?_cons_succ]; rfl
              refine step_append_any _ rfl (.tmp 69) (.tmp 72) 50 rfl W.heap.size 23 i0 _ 1 8 Try.underlying50 hi'.out hz0 hz1 hz2 rfl (by decide) v2 (0 + k + 1) ([] ++ (L.map (Value.int .u64)).take k ++ [.int .u64 x]) rfl ho2.out W.heap.size _ (L.length - k) (c3 - k) ((L.map (Value.int .u64)).drop k) rfl (by first | exact R2W.out.below hb2.out | exact R3W.out.below hb2.out | (rw [if_neg (by omega)]; exact R3W.out.below hb2.out)) o2.out hx1.out.2.2.2.2.1 hx1.out.2.2.2.2.2 hb2.out.size ?_
              intro v3 w3 ho3 hg3 ha3
              have hb3 : Below W.heap.size W w3 := below_via1 hb2.out hg3 rfl rfl rfl rfl hb2.out.size (own_base ho2.out)
              have ks3 := KS.out _ hb3
              replace hb3 := Lib.hid hb3
              replace ho3 := Lib.hid ho3
              replace hg3 := Lib.hid hg3
              clear ha3
              refine hK.out _ _ (fun _ => ?_) (fun _ => ?_)
              · exact ks3
              clear hK K
              try simp only [Act.put, List.setIfInBounds_toArray, List.set_cons_zero, List.set_cons_succ]
              refine wpAnyZ_ready (rs := [19]) (by kernel_rfl) (by simp) ?_
              refine AllReadyZ.cons1 ⟨?_, ?_, fun K hK => ?_⟩ ?_
              rotate_left
              · simp only [List.getElem?_toArray, List.getElem?_cons_zero, List.getElem?_cons_succ]; rfl
              go_simp
              refine hK.out _ _ (fun h => absurd rfl h) (fun _ => ?_)
              clear hK K
              try simp only [Act.put, List.setIfInBounds_toArray, List.set_cons_zero, List.set_cons_succ]
              refine wpAnyZ_done (by kernel_rfl) ?_ _
              · go_wp2
                all_goals
                  go_roundw
                  case rel => exact ⟨i + 1, by go_num, hi1.out, by rw [HT.out, HS.out]; exact Lib.hid ⟨HIW.out.x.below hb3.out, own_mono1 (own_put hk5 ho3.out) hWz, HIW.out.bel.trans (hb3.out.mono hWz)⟩⟩
                  case measure => simp [intOf]; omega
              repeat exact AllReadyZ.nil
              refine AllReadyZ.cons1 ⟨?_, ?_, fun K hK => ?_⟩ ?_
              rotate_left
              · simp only [List.getElem?_toArray, List.getElem?_cons_zero, List.getElem?_cons_succ]; rfl
              go_simp
              refine hK.out _ _ (fun _ => ?_) (fun _ => ?_)
              · exact (KS.out _ (below_alloc (below_alloc (Below.refl _ _) _) _))
              clear hK K
              try simp only [Act.put, List.setIfInBounds_toArray, List.set_cons_zero, List.set_cons_succ]
              refine wpAnyZ_ready (rs := [4]) (by kernel_rfl) (by simp) ?_
              refine AllReadyZ.cons1 ⟨?_, ?_, fun K hK => ?_⟩ ?_
              rotate_left
              · simp only [List.getElem?_toArray, List.getElem?_cons_zero, List.getElem?_cons_succ]; rfl
              refine step_append_any _ rfl (.tmp 55) (.tmp 58) 50 rfl W.heap.size 23 i0 _ 1 8 Try.underlying50 hi'.out hz0 hz1 hz2 rfl (by decide) (.slice (some ⟨W.heap.size, 0, none⟩) 0 0) 0 [] rfl (World.ownsRow.alloc (own_empty1 W W.heap.size 23 W.heap.size (Nat.le_refl _) rfl) (.cells #[.int .u64 x] 23)) W.heap.size _ k c3 ((L.map (Value.int .u64)).take k) rfl ((R1W.out.alloc (Nat.le_refl _) (.cells #[] 23)).alloc (by simp) (.cells #[.int .u64 x] 23)) o1.out hx1.out.1 hx1.out.2.1 (by simp; omega) ?_
              intro v1 w1 ho1 hg1 ha1
              have hb1 : Below W.heap.size W w1 := below_via1 (below_alloc (below_alloc (Below.refl _ W) (.cells #[] 23)) (.cells #[.int .u64 x] 23)) hg1 rfl rfl rfl rfl (by simp; omega) (own_base (own_empty1 W W.heap.size 23 W.heap.size (Nat.le_refl _) rfl))
              have ks1 := KS.out _ hb1
              replace hb1 := Lib.hid hb1
              replace ho1 := Lib.hid ho1
              replace hg1 := Lib.hid hg1
              clear ha1
              have hq1 : w1.heap[W.heap.size + 1]? = some (.cells #[.int .u64 x] 23) := (hg1.out.block (W.heap.size + 1) (by simp) (by simp [Value.ownBlock])).trans (by have := heap_alloc_new (W.alloc (.cells #[] 23)) (.cells #[.int .u64 x] 23); rwa [World.size_alloc] at this)
              refine hK.out _ _ (fun _ => ?_) (fun _ => ?_)
              · exact ks1
              clear hK K
              try simp only [Act.put, List.setIfInBounds_toArray, List.set_cons_zero, List.set_cons_succ]
              refine wpAnyZ_ready (rs := [14]) (by kernel_rfl) (by simp) ?_
              refine AllReadyZ.cons1 ⟨?_, ?_, fun K hK => ?_⟩ ?_
              rotate_left
              · simp only [List.getElem?_toArray, List.getElem?_cons_zero, List.getElem?_cons_succ]; rfl
              refine step_append_any _ rfl (.tmp 59) (.tmp 68) 50 rfl W.heap.size 23 i0 _ 1 8 Try.underlying50 hi'.out hz0 hz1 hz2 rfl (by decide) v1 (0 + k) ([] ++ (L.map (Value.int .u64)).take k) rfl ho1.out _ _ 1 1 [.int .u64 x] rfl (reads_one hq1) (by simp [Value.oneCell']) hx1.out.2.2.1 hx1.out.2.2.2.1 hb1.out.size ?_
              intro v2 w2 ho2 hg2 ha2
              have hb2 : Below W.heap.size W w2 := below_via1 hb1.out hg2 rfl rfl rfl rfl hb1.out.size (own_base ho1.out)
              have ks2 := KS.out _ hb2
              replace hb2 := Lib.hid hb2
              replace ho2 := Lib.hid ho2
              replace hg2 := Lib.hid hg2
              clear ha2
              refine hK.out _ _ (fun _ => ?_) (fun _ => ?_)
              · exact ks2
              clear hK K
              try simp only [Act.put, List.setIfInBounds_toArray, List.set_cons_zero, List.set_cons_succ]
              refine wpAnyZ_ready (rs := [18]) (by kernel_rfl) (by simp) ?_
              refine AllReadyZ.cons1 ⟨?_, ?_, fun K hK => ?_⟩ ?_
              rotate_left
              · simp only [List.getElem?_toArray, List.getElem?_cons_zero, List.getElem?_cons_succ]; rfl
              refine step_append_any _ rfl (.tmp 69) (.tmp 72) 50 rfl W.heap.size 23 i0 _ 1 8 Try.underlying50 hi'.out hz0 hz1 hz2 rfl (by decide) v2 (0 + k + 1) ([] ++ (L.map (Value.int .u64)).take k ++ [.int .u64 x]) rfl ho2.out W.heap.size _ (L.length - k) (c3 - k) ((L.map (Value.int .u64)).drop k) rfl (by first | exact R2W.out.below hb2.out | exact R3W.out.below hb2.out | (rw [if_neg (by omega)]; exact R3W.out.below hb2.out)) o2.out hx1.out.2.2.2.2.1 hx1.out.2.2.2.2.2 hb2.out.size ?_
              intro v3 w3 ho3 hg3 ha3
              have hb3 : Below W.heap.size W w3 := below_via1 hb2.out hg3 rfl rfl rfl rfl hb2.out.size (own_base ho2.out)
              have ks3 := KS.out _ hb3
              replace hb3 := Lib.hid hb3
              replace ho3 := Lib.hid ho3
              replace hg3 := Lib.hid hg3
              clear ha3
              refine hK.out _ _ (fun _ => ?_) (fun _ => ?_)
              · exact ks3
              clear hK K
              try simp only [Act.put, List.setIfInBounds_toArray, List.set_cons_zero, List.set_cons_succ]
              refine wpAnyZ_ready (rs := [19]) (by kernel_rfl) (by simp) ?_
              refine AllReadyZ.cons1 ⟨?_, ?_, fun K hK => ?_⟩ ?_
              rotate_left
              · simp only [List.getElem?_toArray, List.getElem?_cons_zero, List.getElem?_cons_succ]; rfl
              go_simp
              refine hK.out _ _ (fun h => absurd rfl h) (fun _ => ?_)
              clear hK K
              try simp only [Act.put, List.setIfInBounds_toArray, List.set_cons_zero, List.set_cons_succ]
              refine wpAnyZ_done (by kernel_rfl) ?_ _
              · go_wp2
                all_goals
                  go_roundw
                  case rel => exact ⟨i + 1, by go_num, hi1.out, by rw [HT.out, HS.out]; exact Lib.hid ⟨HIW.out.x.below hb3.out, own_mono1 (own_put hk5 ho3.out) hWz, HIW.out.bel.trans (hb3.out.mono hWz)⟩⟩
                  case measure => simp [intOf]; omega
              repeat exact AllReadyZ.nil
              refine AllReadyZ.cons1 ⟨?_, ?_, fun K hK => ?_⟩ ?_
              rotate_left
              · simp only [List.getElem?_toArray, List.getElem?_cons_zero, List.getElem?_cons_succ]; rfl
              go_simp
              refine hK.out _ _ (fun _ => ?_) (fun _ => ?_)
              · exact (KS.out _ (below_alloc (Below.refl _ _) _))
              clear hK K
              try simp only [Act.put, List.setIfInBounds_toArray, List.set_cons_zero, List.set_cons_succ]
              refine wpAnyZ_ready (rs := [0]) (by kernel_rfl) (by simp) ?_
              refine AllReadyZ.cons1 ⟨?_, ?_, fun K hK => ?_⟩ ?_
              rotate_left
              · simp only [List.getElem?_toArray, List.getElem?_cons_zero, List.getElem?_cons_succ]; rfl
              go_simp
              refine hK.out _ _ (fun _ => ?_) (fun _ => ?_)
              · exact (KS.out _ (below_alloc (below_alloc (Below.refl _ _) _) _))
              clear hK K
              try simp only [Act.put, List.setIfInBounds_toArray, List.set_cons_zero, List.set_cons_succ]
              refine wpAnyZ_ready (rs := [4]) (by kernel_rfl) (by simp) ?_
              refine AllReadyZ.cons1 ⟨?_, ?_, fun K hK => ?_⟩ ?_
              rotate_left
              · simp only [List.getElem?_toArray, List.getElem?_cons_zero, List.getElem?_cons_succ]; rfl
              refine step_append_any _ rfl (.tmp 55) (.tmp 58) 50 rfl W.heap.size 23 i0 _ 1 8 Try.underlying50 hi'.out hz0 hz1 hz2 rfl (by decide) (.slice (some ⟨W.heap.size + 1, 0, none⟩) 0 0) 0 [] rfl (own_empty1 (W.alloc (.cells #[.int .u64 x] 23)) W.heap.size 23 (W.heap.size + 1) (by omega) (by simp)) W.heap.size _ k c3 ((L.map (Value.int .u64)).take k) rfl ((R1W.out.alloc (Nat.le_refl _) (.cells #[.int .u64 x] 23)).alloc (by simp) (.cells #[] 23)) o1.out hx1.out.1 hx1.out.2.1 (by simp; omega) ?_
              intro v1 w1 ho1 hg1 ha1
              have hb1 : Below W.heap.size W w1 := below_via1 (below_alloc (below_alloc (Below.refl _ W) (.cells #[.int .u64 x] 23)) (.cells #[] 23)) hg1 rfl rfl rfl rfl (by simp; omega) (own_base (own_empty1 (W.alloc (.cells #[.int .u64 x] 23)) W.heap.size 23 (W.heap.size + 1) (by omega) (by simp)))
              have ks1 := KS.out _ hb1
              replace hb1 := Lib.hid hb1
              replace ho1 := Lib.hid ho1
              replace hg1 := Lib.hid hg1
              clear ha1
              have hq1 : w1.heap[W.heap.size]? = some (.cells #[.int .u64 x] 23) := (hg1.out.block W.heap.size (by simp; omega) (by simp [Value.ownBlock])).trans (blk_alloc (heap_alloc_new W (.cells #[.int .u64 x] 23)) (.cells #[] 23))
              refine hK.out _ _ (fun _ => ?_) (fun _ => ?_)
              · exact ks1
              clear hK K
              try simp only [Act.put, List.setIfInBounds_toArray, List.set_cons_zero, List.set_cons_succ]
              refine wpAnyZ_ready (rs := [14]) (by kernel_rfl) (by simp) ?_
              refine AllReadyZ.cons1 ⟨?_, ?_, fun K hK => ?_⟩ ?_
              rotate_left
              · simp only [List.getElem?_toArray, List.getElem?_cons_zero, List.getElem?_cons_succ]; rfl
              refine step_append_any _ rfl (.tmp 59) (.tmp 68) 50 rfl W.heap.size 23 i0 _ 1 8 Try.underlying50 hi'.out hz0 hz1 hz2 rfl (by decide) v1 (0 + k) ([] ++ (L.map (Value.int .u64)).take k) rfl ho1.out _ _ 1 1 [.int .u64 x] rfl (reads_one hq1) (by simp [Value.oneCell']) hx1.out.2.2.1 hx1.out.2.2.2.1 hb1.out.size ?_
              intro v2 w2 ho2 hg2 ha2
              have hb2 : Below W.heap.size W w2 := below_via1 hb1.out hg2 rfl rfl rfl rfl hb1.out.size (own_base ho1.out)
              have ks2 := KS.out _ hb2
              replace hb2 := Lib.hid hb2
              replace ho2 := Lib.hid ho2
              replace hg2 := Lib.hid hg2
              clear ha2
              refine hK.out _ _ (fun _ => ?_) (fun _ => ?_)
              · exact ks2
              clear hK K
              try simp only [Act.put, List.setIfInBounds_toArray, List.set_cons_zero, List.set_cons_succ]
              refine wpAnyZ_ready (rs := [18]) (by kernel_rfl) (by simp) ?_
              refine AllReadyZ.cons1 ⟨?_, ?_, fun K hK => ?_⟩ ?_
              rotate_left
              · simp only [List.getElem?_toArray, List.getElem?_cons_zero, List.getElem?_cons_succ]; rfl
              refine step_append_any _ rfl (.tmp 69) (.tmp 72) 50 rfl W.heap.size 23 i0 _ 1 8 Try.underlying50 hi'.out hz0 hz1 hz2 rfl (by decide) v2 (0 + k + 1) ([] ++ (L.map (Value.int .u64)).take k ++ [.int .u64 x]) rfl ho2.out W.heap.size _ (L.length - k) (c3 - k) ((L.map (Value.int .u64)).drop k) rfl (by first | exact R2W.out.below hb2.out | exact R3W.out.below hb2.out | (rw [if_neg (by omega)]; exact R3W.out.below hb2.out)) o2.out hx1.out.2.2.2.2.1 hx1.out.2.2.2.2.2 hb2.out.size ?_
              intro v3 w3 ho3 hg3 ha3
              have hb3 : Below W.heap.size W w3 := below_via1 hb2.out hg3 rfl rfl rfl rfl hb2.out.size (own_base ho2.out)
              have ks3 := KS.out _ hb3
              replace hb3 := Lib.hid hb3
              replace ho3 := Lib.hid ho3
              replace hg3 := Lib.hid hg3
              clear ha3
              refine hK.out _ _ (fun _ => ?_) (fun _ => ?_)
              · exact ks3
              clear hK K
              try simp only [Act.put, List.setIfInBounds_toArray, List.set_cons_zero, List.set_cons_succ]
              refine wpAnyZ_ready (rs := [19]) (by kernel_rfl) (by simp) ?_
              refine AllReadyZ.cons1 ⟨?_, ?_, fun K hK => ?_⟩ ?_
              rotate_left
              · simp only [List.getElem?_toArray, List.getElem?_cons_zero, List.getElem?_cons_succ]; rfl
              go_simp
              refine hK.out _ _ (fun h => absurd rfl h) (fun _ => ?_)
              clear hK K
              try simp only [Act.put, List.setIfInBounds_toArray, List.set_cons_zero, List.set_cons_succ]
              refine wpAnyZ_done (by kernel_rfl) ?_ _
              · go_wp2
                all_goals
                  go_roundw
                  case rel => exact ⟨i + 1, by go_num, hi1.out, by rw [HT.out, HS.out]; exact Lib.hid ⟨HIW.out.x.below hb3.out, own_mono1 (own_put hk5 ho3.out) hWz, HIW.out.bel.trans (hb3.out.mono hWz)⟩⟩
                  case measure => simp [intOf]; omega
              repeat exact AllReadyZ.nil
        · have hkl : k = L.length := by omega
          subst hkl
          have HS := Lib.hid (insU_put L L.length x (Nat.le_refl _) HLO.out (fun h => absurd h (Nat.lt_irrefl _)))
          clear HLO
          go_upto_region 6 with fail
          go_quiet (fail)
          revert nq; intro nq1
          go_upto_region 8 with fail
          go_quiet (fail)
          revert nq; intro nq2
          go_upto_region 9 with fail
          refine wp_region_z_drew (S := fun w' => w'.cell? { block := g, off := 0 } = some (.slice (some { block := blk, off := 0 }) X.length c) ∧ w'.cell? { block := blk, off := i * 4 + 2 } = some (.int .u64 x)) (z := 19) (by kernel_rfl) ⟨hcell, e2⟩ (fun hHeld => ?_)
          have q0 : (0 : Int) ≤ (L.length : Int) := by omega
          have q1 : (L.length : Int) ≤ (L.length : Int) := by omega
          have q2 : (L.length : Int) ≤ (c3 : Int) := by omega
          refine wpAnyZ_take1 1 rfl (by decide) (by kernel_rfl) (by kernel_rfl) (by kernel_rfl) (by kernel_rfl) (fun d v c a w h => by cases d <;> exact h) (by assumption) ⟨?_, ?_, ?_, Or.inl ⟨?_, ?_⟩, ?_⟩
          rotate_left
          · simp only [List.getElem?_toArray, List.getElem?_cons_zero, List.getElem?_cons_succ]; rfl
          rotate_left
          · rfl
          · intro w hSw; (try dsimp only at hSw); go_simp; try (with_reducible rfl)
          simp only [Act.put, List.setIfInBounds_toArray, List.set_cons_zero, List.set_cons_succ]
          refine wpAnyZ_take1 2 rfl (by decide) (by kernel_rfl) (by kernel_rfl) (by kernel_rfl) (by kernel_rfl) (fun d v c a w h => by cases d <;> exact h) (by assumption) ⟨?_, ?_, ?_, Or.inl ⟨?_, ?_⟩, ?_⟩
          rotate_left
          · simp only [List.getElem?_toArray, List.getElem?_cons_zero, List.getElem?_cons_succ]; rfl
          rotate_left
          · rfl
          · intro w hSw; (try dsimp only at hSw); go_simp; try (with_reducible rfl)
          simp only [Act.put, List.setIfInBounds_toArray, List.set_cons_zero, List.set_cons_succ]
          refine wpAnyZ_take1 3 rfl (by decide) (by kernel_rfl) (by kernel_rfl) (by kernel_rfl) (by kernel_rfl) (fun d v c a w h => by cases d <;> exact h) (by assumption) ⟨?_, ?_, ?_, Or.inl ⟨?_, ?_⟩, ?_⟩
          rotate_left
          · simp only [List.getElem?_toArray, List.getElem?_cons_zero, List.getElem?_cons_succ]; rfl
          rotate_left
          · rfl
          · intro w hSw; (try dsimp only at hSw); go_simp; try (with_reducible rfl)
          simp only [Act.put, List.setIfInBounds_toArray, List.set_cons_zero, List.set_cons_succ]
          refine wpAnyZ_take1 5 rfl (by decide) (by kernel_rfl) (by kernel_rfl) (by kernel_rfl) (by kernel_rfl) (fun d v c a w h => by cases d <;> exact h) (by assumption) ⟨?_, ?_, ?_, Or.inl ⟨?_, ?_⟩, ?_⟩
          rotate_left
          · simp only [List.getElem?_toArray, List.getElem?_cons_zero, List.getElem?_cons_succ]; rfl
          rotate_left
          · rfl
          · intro w hSw; (try dsimp only at hSw); go_simp; try (with_reducible rfl)
          simp only [Act.put, List.setIfInBounds_toArray, List.set_cons_zero, List.set_cons_succ]
          refine wpAnyZ_take1 6 rfl (by decide) (by kernel_rfl) (by kernel_rfl) (by kernel_rfl) (by kernel_rfl) (fun d v c a w h => by cases d <;> exact h) (by assumption) ⟨?_, ?_, ?_, Or.inl ⟨?_, ?_⟩, ?_⟩
          rotate_left
          · simp only [List.getElem?_toArray, List.getElem?_cons_zero, List.getElem?_cons_succ]; rfl
          rotate_left
          · rfl
          · intro w hSw; (try dsimp only at hSw); go_simp; try (with_reducible rfl)
          simp only [Act.put, List.setIfInBounds_toArray, List.set_cons_zero, List.set_cons_succ]
          refine wpAnyZ_take1 7 rfl (by decide) (by kernel_rfl) (by kernel_rfl) (by kernel_rfl) (by kernel_rfl) (fun d v c a w h => by cases d <;> exact h) (by assumption) ⟨?_, ?_, ?_, Or.inl ⟨?_, ?_⟩, ?_⟩
          rotate_left
          · simp only [List.getElem?_toArray, List.getElem?_cons_zero, List.getElem?_cons_succ]; rfl
          rotate_left
          · rfl
          · intro w hSw; (try dsimp only at hSw); go_simp; try (with_reducible rfl)
          simp only [Act.put, List.setIfInBounds_toArray, List.set_cons_zero, List.set_cons_succ]
          refine wpAnyZ_take1 8 rfl (by decide) (by kernel_rfl) (by kernel_rfl) (by kernel_rfl) (by kernel_rfl) (fun d v c a w h => by cases d <;> exact h) (by assumption) ⟨?_, ?_, ?_, Or.inl ⟨?_, ?_⟩, ?_⟩
          rotate_left
          · simp only [List.getElem?_toArray, List.getElem?_cons_zero, List.getElem?_cons_succ]; rfl
          rotate_left
          · rfl
          · intro w hSw; (try dsimp only at hSw); go_simp; try (with_reducible rfl)
          simp only [Act.put, List.setIfInBounds_toArray, List.set_cons_zero, List.set_cons_succ]
          refine wpAnyZ_take1 9 rfl (by decide) (by kernel_rfl) (by kernel_rfl) (by kernel_rfl) (by kernel_rfl) (fun d v c a w h => by cases d <;> exact h) (by assumption) ⟨?_, ?_, ?_, Or.inl ⟨?_, ?_⟩, ?_⟩
          rotate_left
          · simp only [List.getElem?_toArray, List.getElem?_cons_zero, List.getElem?_cons_succ]; rfl
          rotate_left
          · rfl
          · intro w hSw; (try dsimp only at hSw); go_simp; try (with_reducible rfl)
          simp only [Act.put, List.setIfInBounds_toArray, List.set_cons_zero, List.set_cons_succ]
          refine wpAnyZ_take1 10 rfl (by decide) (by kernel_rfl) (by kernel_rfl) (by kernel_rfl) (by kernel_rfl) (fun d v c a w h => by cases d <;> exact h) (by assumption) ⟨?_, ?_, ?_, Or.inl ⟨?_, ?_⟩, ?_⟩
          rotate_left
          · simp only [List.getElem?_toArray, List.getElem?_cons_zero, List.getElem?_cons_succ]; rfl
          rotate_left
          · rfl
          · intro w hSw; (try dsimp only at hSw); go_simp; try (with_reducible rfl)
          simp only [Act.put, List.setIfInBounds_toArray, List.set_cons_zero, List.set_cons_succ]
          refine wpAnyZ_take1 11 rfl (by decide) (by kernel_rfl) (by kernel_rfl) (by kernel_rfl) (by kernel_rfl) (fun d v c a w h => by cases d <;> exact h) (by assumption) ⟨?_, ?_, ?_, Or.inl ⟨?_, ?_⟩, ?_⟩
          rotate_left
          · simp only [List.getElem?_toArray, List.getElem?_cons_zero, List.getElem?_cons_succ]; rfl
          rotate_left
          · rfl
          · intro w hSw; (try dsimp only at hSw); go_simp; try (with_reducible rfl)
          simp only [Act.put, List.setIfInBounds_toArray, List.set_cons_zero, List.set_cons_succ]
          refine wpAnyZ_take1 12 rfl (by decide) (by kernel_rfl) (by kernel_rfl) (by kernel_rfl) (by kernel_rfl) (fun d v c a w h => by cases d <;> exact h) (by assumption) ⟨?_, ?_, ?_, Or.inl ⟨?_, ?_⟩, ?_⟩
          rotate_left
          · simp only [List.getElem?_toArray, List.getElem?_cons_zero, List.getElem?_cons_succ]; rfl
          rotate_left
          · rfl
          · intro w hSw; (try dsimp only at hSw); go_simp; try (with_reducible rfl)
          simp only [Act.put, List.setIfInBounds_toArray, List.set_cons_zero, List.set_cons_succ]
          refine wpAnyZ_take1 15 rfl (by decide) (by kernel_rfl) (by kernel_rfl) (by kernel_rfl) (by kernel_rfl) (fun d v c a w h => by cases d <;> exact h) (by assumption) ⟨?_, ?_, ?_, Or.inl ⟨?_, ?_⟩, ?_⟩
          rotate_left
          · simp only [List.getElem?_toArray, List.getElem?_cons_zero, List.getElem?_cons_succ]; rfl
          rotate_left
          · rfl
          · intro w hSw; (try dsimp only at hSw); go_simp; try (with_reducible rfl)
          simp only [Act.put, List.setIfInBounds_toArray, List.set_cons_zero, List.set_cons_succ]
          refine wpAnyZ_take1 16 rfl (by decide) (by kernel_rfl) (by kernel_rfl) (by kernel_rfl) (by kernel_rfl) (fun d v c a w h => by cases d <;> exact h) (by assumption) ⟨?_, ?_, ?_, Or.inl ⟨?_, ?_⟩, ?_⟩
          rotate_left
          · simp only [List.getElem?_toArray, List.getElem?_cons_zero, List.getElem?_cons_succ]; rfl
          rotate_left
          · rfl
          · intro w hSw; (try dsimp only at hSw); go_simp; try (with_reducible rfl)
          simp only [Act.put, List.setIfInBounds_toArray, List.set_cons_zero, List.set_cons_succ]
          refine wpAnyZ_take1 17 rfl (by decide) (by kernel_rfl) (by kernel_rfl) (by kernel_rfl) (by kernel_rfl) (fun d v c a w h => by cases d <;> exact h) (by assumption) ⟨?_, ?_, ?_, Or.inl ⟨?_, ?_⟩, ?_⟩
          rotate_left
          · simp only [List.getElem?_toArray, List.getElem?_cons_zero, List.getElem?_cons_succ]; rfl
          rotate_left
          · rfl
          · intro w hSw; (try dsimp only at hSw); go_simp; try (with_reducible rfl)
          simp only [Act.put, List.setIfInBounds_toArray, List.set_cons_zero, List.set_cons_succ]
          have HIW := Lib.hid (HI.out.below (w2 := (World.drewN (World.drewN _ _) _).drew) (below_drew (pw_below_drewN (pw_below_drewN (Below.refl _ _) nq1) nq2)))
          generalize (World.drewN (World.drewN _ nq1) nq2).drew = W at *
          have hWz := HIW.out.bel.size
          have hWb := xat_row_lt HIW.out.x (by omega)
          have hWg := HIW.out.x.lt
          have RW := Reads.of_own HIW.out.own
          have R1W := Lib.hid (reads_take1 RW (k := L.length) (by omega))
          clear RW
          have KS := Lib.hid (fun (w' : World) (h : Below W.heap.size W w') => (⟨(h.cell (p := { block := g, off := 0 }) hWg).trans hHeld.1, (h.cell (p := { block := blk, off := i * 4 + 2 }) hWb).trans hHeld.2⟩ : w'.cell? { block := g, off := 0 } = some (.slice (some { block := blk, off := 0 }) X.length c) ∧ w'.cell? { block := blk, off := i * 4 + 2 } = some (.int .u64 x)))
          have hx1 := Lib.hid (show 0 + L.length ≤ maxLen ∧ (0 + L.length) * 8 ≤ 140737488355328 ∧ 0 + L.length + 1 ≤ maxLen ∧ (0 + L.length + 1) * 8 ≤ 140737488355328 ∧ 0 + L.length + 1 + (L.length - L.length) ≤ maxLen ∧ (0 + L.length + 1 + (L.length - L.length)) * 8 ≤ 140737488355328 by unfold maxLen; omega)
          have o1 := Lib.hid (show ∀ u ∈ (L.map (Value.int .u64)).take L.length, u.oneCell' = true from fun u hu => by obtain ⟨a, _, rfl⟩ := List.mem_map.1 (List.mem_of_mem_take hu); rfl)
          have o2 := Lib.hid (show ∀ u ∈ (L.map (Value.int .u64)).drop L.length, u.oneCell' = true from fun u hu => by obtain ⟨a, _, rfl⟩ := List.mem_map.1 (List.mem_of_mem_drop hu); rfl)
          clear hHeld hcell e2 HI
          refine wpAnyZ_ready (rs := [0, 13]) (by kernel_rfl) (by simp) ?_
          refine AllReadyZ.cons1 ⟨?_, ?_, fun K hK => ?_⟩ ?_
          rotate_left
          · simp only [List.getElem?_toArray, List.getElem?_cons_zero, List.getElem?_cons_succ]; rfl
          go_simp
          refine hK.out _ _ (fun _ => ?_) (fun _ => ?_)
          · exact (KS.out _ (below_alloc (Below.refl _ _) _))
          clear hK K
          try simp only [Act.put, List.setIfInBounds_toArray, List.set_cons_zero, List.set_cons_succ]
          refine wpAnyZ_ready (rs := [4, 13]) (by kernel_rfl) (by simp) ?_
          refine AllReadyZ.cons1 ⟨?_, ?_, fun K hK => ?_⟩ ?_
          rotate_left
          · simp only [List.getElem?_toArray, List.getElem?_cons_zero, List.getElem?_cons_succ]; rfl
          refine step_append_any _ rfl (.tmp 55) (.tmp 58) 50 rfl W.heap.size 23 i0 _ 1 8 Try.underlying50 hi'.out hz0 hz1 hz2 rfl (by decide) (.slice (some ⟨W.heap.size, 0, none⟩) 0 0) 0 [] rfl (own_empty1 W W.heap.size 23 W.heap.size (Nat.le_refl _) rfl) W.heap.size _ L.length c3 ((L.map (Value.int .u64)).take L.length) rfl (R1W.out.alloc (Nat.le_refl _) _) o1.out hx1.out.1 hx1.out.2.1 (by simp) ?_
          intro v1 w1 ho1 hg1 ha1
          have hb1 : Below W.heap.size W w1 := below_via1 (below_alloc (Below.refl _ W) (.cells #[] 23)) hg1 rfl rfl rfl rfl (by simp) (own_base (own_empty1 W W.heap.size 23 W.heap.size (Nat.le_refl _) rfl))
          have ks1 := KS.out _ hb1
          replace hb1 := Lib.hid hb1
          replace ho1 := Lib.hid ho1
          replace hg1 := Lib.hid hg1
          clear ha1
          refine hK.out _ _ (fun _ => ?_) (fun _ => ?_)
          · exact ks1
          clear hK K
          try simp only [Act.put, List.setIfInBounds_toArray, List.set_cons_zero, List.set_cons_succ]
          refine wpAnyZ_ready (rs := [13]) (by kernel_rfl) (by simp) ?_
          refine AllReadyZ.cons1 ⟨?_, ?_, fun K hK => ?_⟩ ?_
          rotate_left
          · simp only [List.getElem?_toArray, List.getElem?_cons_zero, List.getElem?_cons_succ]; rfl
          go_simp
          refine hK.out _ _ (fun _ => ?_) (fun _ => ?_)
          · exact (KS.out _ (below_alloc hb1.out _))
          clear hK K
          try simp only [Act.put, List.setIfInBounds_toArray, List.set_cons_zero, List.set_cons_succ]
          refine wpAnyZ_ready (rs := [14]) (by kernel_rfl) (by simp) ?_
          refine AllReadyZ.cons1 ⟨?_, ?_, fun K hK => ?_⟩ ?_
          rotate_left
          · simp only [List.getElem?_toArray, List.getElem?_cons_zero, List.getElem?_cons_succ]; rfl
          refine step_append_any _ rfl (.tmp 59) (.tmp 68) 50 rfl W.heap.size 23 i0 _ 1 8 Try.underlying50 hi'.out hz0 hz1 hz2 rfl (by decide) v1 (0 + L.length) ([] ++ (L.map (Value.int .u64)).take L.length) rfl (World.ownsRow.alloc ho1.out (.cells #[.int .u64 x] 23)) _ _ 1 1 [.int .u64 x] rfl (reads_one (heap_alloc_new w1 (.cells #[.int .u64 x] 23))) (by simp [Value.oneCell']) hx1.out.2.2.1 hx1.out.2.2.2.1 (below_alloc hb1.out (.cells #[.int .u64 x] 23)).size ?_
          intro v2 w2 ho2 hg2 ha2
          have hb2 : Below W.heap.size W w2 := below_via1 (below_alloc hb1.out (.cells #[.int .u64 x] 23)) hg2 rfl rfl rfl rfl (below_alloc hb1.out (.cells #[.int .u64 x] 23)).size (own_base ho1.out)
          have ks2 := KS.out _ hb2
          replace hb2 := Lib.hid hb2
          replace ho2 := Lib.hid ho2
          replace hg2 := Lib.hid hg2
          clear ha2
          refine hK.out _ _ (fun _ => ?_) (fun _ => ?_)
          · exact ks2
          clear hK K
          try simp only [Act.put, List.setIfInBounds_toArray, List.set_cons_zero, List.set_cons_succ]
          refine wpAnyZ_ready (rs := [18]) (by kernel_rfl) (by simp) ?_
          refine AllReadyZ.cons1 ⟨?_, ?_, fun K hK => ?_⟩ ?_
          rotate_left
          · simp only [List.getElem?_toArray, List.getElem?_cons_zero, List.getElem?_cons_succ]; rfl
          refine step_append_any _ rfl (.tmp 69) (.tmp 72) 50 rfl W.heap.size 23 i0 _ 1 8 Try.underlying50 hi'.out hz0 hz1 hz2 rfl (by decide) v2 (0 + L.length + 1) ([] ++ (L.map (Value.int .u64)).take L.length ++ [.int .u64 x]) rfl ho2.out W.heap.size _ 0 _ [] rfl Reads.none_ (fun u hu => by cases hu) (by have := hx1.out.2.2.1; exact this) (by have := hx1.out.2.2.2.1; exact this) hb2.out.size ?_
          intro v3 w3 ho3 hg3 ha3
          have hb3 : Below W.heap.size W w3 := below_via1 hb2.out hg3 rfl rfl rfl rfl hb2.out.size (own_base ho2.out)
          have ks3 := KS.out _ hb3
          replace hb3 := Lib.hid hb3
          replace ho3 := Lib.hid ho3
          replace hg3 := Lib.hid hg3
          clear ha3
          refine hK.out _ _ (fun _ => ?_) (fun _ => ?_)
          · exact ks3
          clear hK K
          try simp only [Act.put, List.setIfInBounds_toArray, List.set_cons_zero, List.set_cons_succ]
          refine wpAnyZ_ready (rs := [19]) (by kernel_rfl) (by simp) ?_
          refine AllReadyZ.cons1 ⟨?_, ?_, fun K hK => ?_⟩ ?_
          rotate_left
          · simp only [List.getElem?_toArray, List.getElem?_cons_zero, List.getElem?_cons_succ]; rfl
          go_simp
          refine hK.out _ _ (fun h => absurd rfl h) (fun _ => ?_)
          clear hK K
          try simp only [Act.put, List.setIfInBounds_toArray, List.set_cons_zero, List.set_cons_succ]
          refine wpAnyZ_done (by kernel_rfl) ?_ _
          · go_wp2
            all_goals
              go_roundw
              case rel => exact ⟨i + 1, by go_num, hi1.out, by rw [HT.out, HS.out]; exact Lib.hid ⟨HIW.out.x.below hb3.out, own_mono1 (own_put0 ho3.out) hWz, HIW.out.bel.trans (hb3.out.mono hWz)⟩⟩
              case measure => simp [intOf]; omega
          repeat exact AllReadyZ.nil
          refine AllReadyZ.cons1 ⟨?_, ?_, fun K hK => ?_⟩ ?_
          rotate_left
          · simp only [List.getElem?_toArray, List.getElem?_cons_zero, List.getElem?_cons_succ]; rfl
          go_simp
          refine hK.out _ _ (fun _ => ?_) (fun _ => ?_)
          · exact (KS.out _ (below_alloc (below_alloc (Below.refl _ _) _) _))
          clear hK K
          try simp only [Act.put, List.setIfInBounds_toArray, List.set_cons_zero, List.set_cons_succ]
          refine wpAnyZ_ready (rs := [4]) (by kernel_rfl) (by simp) ?_
          refine AllReadyZ.cons1 ⟨?_, ?_, fun K hK => ?_⟩ ?_
          rotate_left
          · simp only [List.getElem?_toArray, List.getElem?_cons_zero, List.getElem?_cons_succ]; rfl
          refine step_append_any _ rfl (.tmp 55) (.tmp 58) 50 rfl W.heap.size 23 i0 _ 1 8 Try.underlying50 hi'.out hz0 hz1 hz2 rfl (by decide) (.slice (some ⟨W.heap.size, 0, none⟩) 0 0) 0 [] rfl (World.ownsRow.alloc (own_empty1 W W.heap.size 23 W.heap.size (Nat.le_refl _) rfl) (.cells #[.int .u64 x] 23)) W.heap.size _ L.length c3 ((L.map (Value.int .u64)).take L.length) rfl ((R1W.out.alloc (Nat.le_refl _) (.cells #[] 23)).alloc (by simp) (.cells #[.int .u64 x] 23)) o1.out hx1.out.1 hx1.out.2.1 (by simp; omega) ?_
          intro v1 w1 ho1 hg1 ha1
          have hb1 : Below W.heap.size W w1 := below_via1 (below_alloc (below_alloc (Below.refl _ W) (.cells #[] 23)) (.cells #[.int .u64 x] 23)) hg1 rfl rfl rfl rfl (by simp; omega) (own_base (own_empty1 W W.heap.size 23 W.heap.size (Nat.le_refl _) rfl))
          have ks1 := KS.out _ hb1
          replace hb1 := Lib.hid hb1
          replace ho1 := Lib.hid ho1
          replace hg1 := Lib.hid hg1
          clear ha1
          have hq1 : w1.heap[W.heap.size + 1]? = some (.cells #[.int .u64 x] 23) := (hg1.out.block (W.heap.size + 1) (by simp) (by simp [Value.ownBlock])).trans (by have := heap_alloc_new (W.alloc (.cells #[] 23)) (.cells #[.int .u64 x] 23); rwa [World.size_alloc] at this)
          refine hK.out _ _ (fun _ => ?_) (fun _ => ?_)
          · exact ks1
          clear hK K
          try simp only [Act.put, List.setIfInBounds_toArray, List.set_cons_zero, List.set_cons_succ]
          refine wpAnyZ_ready (rs := [14]) (by kernel_rfl) (by simp) ?_
          refine AllReadyZ.cons1 ⟨?_, ?_, fun K hK => ?_⟩ ?_
          rotate_left
          · simp only [List.getElem?_toArray, List.getElem?_cons_zero, List.getElem?_cons_succ]; rfl
          refine step_append_any _ rfl (.tmp 59) (.tmp 68) 50 rfl W.heap.size 23 i0 _ 1 8 Try.underlying50 hi'.out hz0 hz1 hz2 rfl (by decide) v1 (0 + L.length) ([] ++ (L.map (Value.int .u64)).take L.length) rfl ho1.out _ _ 1 1 [.int .u64 x] rfl (reads_one hq1) (by simp [Value.oneCell']) hx1.out.2.2.1 hx1.out.2.2.2.1 hb1.out.size ?_
          intro v2 w2 ho2 hg2 ha2
          have hb2 : Below W.heap.size W w2 := below_via1 hb1.out hg2 rfl rfl rfl rfl hb1.out.size (own_base ho1.out)
          have ks2 := KS.out _ hb2
          replace hb2 := Lib.hid hb2
          replace ho2 := Lib.hid ho2
          replace hg2 := Lib.hid hg2
          clear ha2
          refine hK.out _ _ (fun _ => ?_) (fun _ => ?_)
          · exact ks2
          clear hK K
          try simp only [Act.put, List.setIfInBounds_toArray, List.set_cons_zero, List.set_cons_succ]
          refine wpAnyZ_ready (rs := [18]) (by kernel_rfl) (by simp) ?_
          refine AllReadyZ.cons1 ⟨?_, ?_, fun K hK => ?_⟩ ?_
          rotate_left
          · simp only [List.getElem?_toArray, List.getElem?_cons_zero, List.getElem?_cons_succ]; rfl
          refine step_append_any _ rfl (.tmp 69) (.tmp 72) 50 rfl W.heap.size 23 i0 _ 1 8 Try.underlying50 hi'.out hz0 hz1 hz2 rfl (by decide) v2 (0 + L.length + 1) ([] ++ (L.map (Value.int .u64)).take L.length ++ [.int .u64 x]) rfl ho2.out W.heap.size _ 0 _ [] rfl Reads.none_ (fun u hu => by cases hu) (by have := hx1.out.2.2.1; exact this) (by have := hx1.out.2.2.2.1; exact this) hb2.out.size ?_
          intro v3 w3 ho3 hg3 ha3
          have hb3 : Below W.heap.size W w3 := below_via1 hb2.out hg3 rfl rfl rfl rfl hb2.out.size (own_base ho2.out)
          have ks3 := KS.out _ hb3
          replace hb3 := Lib.hid hb3
          replace ho3 := Lib.hid ho3
          replace hg3 := Lib.hid hg3
          clear ha3
          refine hK.out _ _ (fun _ => ?_) (fun _ => ?_)
          · exact ks3
          clear hK K
          try simp only [Act.put, List.setIfInBounds_toArray, List.set_cons_zero, List.set_cons_succ]
          refine wpAnyZ_ready (rs := [19]) (by kernel_rfl) (by simp) ?_
          refine AllReadyZ.cons1 ⟨?_, ?_, fun K hK => ?_⟩ ?_
          rotate_left
          · simp only [List.getElem?_toArray, List.getElem?_cons_zero, List.getElem?_cons_succ]; rfl
          go_simp
          refine hK.out _ _ (fun h => absurd rfl h) (fun _ => ?_)
          clear hK K
          try simp only [Act.put, List.setIfInBounds_toArray, List.set_cons_zero, List.set_cons_succ]
          refine wpAnyZ_done (by kernel_rfl) ?_ _
          · go_wp2
            all_goals
              go_roundw
              case rel => exact ⟨i + 1, by go_num, hi1.out, by rw [HT.out, HS.out]; exact Lib.hid ⟨HIW.out.x.below hb3.out, own_mono1 (own_put0 ho3.out) hWz, HIW.out.bel.trans (hb3.out.mono hWz)⟩⟩
              case measure => simp [intOf]; omega
          repeat exact AllReadyZ.nil
          refine AllReadyZ.cons1 ⟨?_, ?_, fun K hK => ?_⟩ ?_
          rotate_left
          · simp only [List.getElem?_toArray, List.getElem?_cons_zero, List.getElem?_cons_succ]; rfl
          go_simp
          refine hK.out _ _ (fun _ => ?_) (fun _ => ?_)
          · exact (KS.out _ (below_alloc (Below.refl _ _) _))
          clear hK K
          try simp only [Act.put, List.setIfInBounds_toArray, List.set_cons_zero, List.set_cons_succ]
          refine wpAnyZ_ready (rs := [0]) (by kernel_rfl) (by simp) ?_
          refine AllReadyZ.cons1 ⟨?_, ?_, fun K hK => ?_⟩ ?_
          rotate_left
          · simp only [List.getElem?_toArray, List.getElem?_cons_zero, List.getElem?_cons_succ]; rfl
          go_simp
          refine hK.out _ _ (fun _ => ?_) (fun _ => ?_)
          · exact (KS.out _ (below_alloc (below_alloc (Below.refl _ _) _) _))
          clear hK K
          try simp only [Act.put, List.setIfInBounds_toArray, List.set_cons_zero, List.set_cons_succ]
          refine wpAnyZ_ready (rs := [4]) (by kernel_rfl) (by simp) ?_
          refine AllReadyZ.cons1 ⟨?_, ?_, fun K hK => ?_⟩ ?_
          rotate_left
          · simp only [List.getElem?_toArray, List.getElem?_cons_zero, List.getElem?_cons_succ]; rfl
          refine step_append_any _ rfl (.tmp 55) (.tmp 58) 50 rfl W.heap.size 23 i0 _ 1 8 Try.underlying50 hi'.out hz0 hz1 hz2 rfl (by decide) (.slice (some ⟨W.heap.size + 1, 0, none⟩) 0 0) 0 [] rfl (own_empty1 (W.alloc (.cells #[.int .u64 x] 23)) W.heap.size 23 (W.heap.size + 1) (by omega) (by simp)) W.heap.size _ L.length c3 ((L.map (Value.int .u64)).take L.length) rfl ((R1W.out.alloc (Nat.le_refl _) (.cells #[.int .u64 x] 23)).alloc (by simp) (.cells #[] 23)) o1.out hx1.out.1 hx1.out.2.1 (by simp; omega) ?_
          intro v1 w1 ho1 hg1 ha1
          have hb1 : Below W.heap.size W w1 := below_via1 (below_alloc (below_alloc (Below.refl _ W) (.cells #[.int .u64 x] 23)) (.cells #[] 23)) hg1 rfl rfl rfl rfl (by simp; omega) (own_base (own_empty1 (W.alloc (.cells #[.int .u64 x] 23)) W.heap.size 23 (W.heap.size + 1) (by omega) (by simp)))
          have ks1 := KS.out _ hb1
          replace hb1 := Lib.hid hb1
          replace ho1 := Lib.hid ho1
          replace hg1 := Lib.hid hg1
          clear ha1
          have hq1 : w1.heap[W.heap.size]? = some (.cells #[.int .u64 x] 23) := (hg1.out.block W.heap.size (by simp; omega) (by simp [Value.ownBlock])).trans (blk_alloc (heap_alloc_new W (.cells #[.int .u64 x] 23)) (.cells #[] 23))
          refine hK.out _ _ (fun _ => ?_) (fun _ => ?_)
          · exact ks1
          clear hK K
          try simp only [Act.put, List.setIfInBounds_toArray, List.set_cons_zero, List.set_cons_succ]
          refine wpAnyZ_ready (rs := [14]) (by kernel_rfl) (by simp) ?_
          refine AllReadyZ.cons1 ⟨?_, ?_, fun K hK => ?_⟩ ?_
          rotate_left
          · simp only [List.getElem?_toArray, List.getElem?_cons_zero, List.getElem?_cons_succ]; rfl
          refine step_append_any _ rfl (.tmp 59) (.tmp 68) 50 rfl W.heap.size 23 i0 _ 1 8 Try.underlying50 hi'.out hz0 hz1 hz2 rfl (by decide) v1 (0 + L.length) ([] ++ (L.map (Value.int .u64)).take L.length) rfl ho1.out _ _ 1 1 [.int .u64 x] rfl (reads_one hq1) (by simp [Value.oneCell']) hx1.out.2.2.1 hx1.out.2.2.2.1 hb1.out.size ?_
          intro v2 w2 ho2 hg2 ha2
          have hb2 : Below W.heap.size W w2 := below_via1 hb1.out hg2 rfl rfl rfl rfl hb1.out.size (own_base ho1.out)
          have ks2 := KS.out _ hb2
          replace hb2 := Lib.hid hb2
          replace ho2 := Lib.hid ho2
          replace hg2 := Lib.hid hg2
          clear ha2
          refine hK.out _ _ (fun _ => ?_) (fun _ => ?_)
          · exact ks2
          clear hK K
          try simp only [Act.put, List.setIfInBounds_toArray, List.set_cons_zero, List.set_cons_succ]
          refine wpAnyZ_ready (rs := [18]) (by kernel_rfl) (by simp) ?_
          refine AllReadyZ.cons1 ⟨?_, ?_, fun K hK => ?_⟩ ?_
          rotate_left
          · simp only [List.getElem?_toArray, List.getElem?_cons_zero, List.getElem?_cons_succ]; rfl
          refine step_append_any _ rfl (.tmp 69) (.tmp 72) 50 rfl W.heap.size 23 i0 _ 1 8 Try.underlying50 hi'.out hz0 hz1 hz2 rfl (by decide) v2 (0 + L.length + 1) ([] ++ (L.map (Value.int .u64)).take L.length ++ [.int .u64 x]) rfl ho2.out W.heap.size _ 0 _ [] rfl Reads.none_ (fun u hu => by cases hu) (by have := hx1.out.2.2.1; exact this) (by have := hx1.out.2.2.2.1; exact this) hb2.out.size ?_
          intro v3 w3 ho3 hg3 ha3
          have hb3 : Below W.heap.size W w3 := below_via1 hb2.out hg3 rfl rfl rfl rfl hb2.out.size (own_base ho2.out)
          have ks3 := KS.out _ hb3
          replace hb3 := Lib.hid hb3
          replace ho3 := Lib.hid ho3
          replace hg3 := Lib.hid hg3
          clear ha3
          refine hK.out _ _ (fun _ => ?_) (fun _ => ?_)
          · exact ks3
          clear hK K
          try simp only [Act.put, List.setIfInBounds_toArray, List.set_cons_zero, List.set_cons_succ]
          refine wpAnyZ_ready (rs := [19]) (by kernel_rfl) (by simp) ?_
          refine AllReadyZ.cons1 ⟨?_, ?_, fun K hK => ?_⟩ ?_
          rotate_left
          · simp only [List.getElem?_toArray, List.getElem?_cons_zero, List.getElem?_cons_succ]; rfl
          go_simp
          refine hK.out _ _ (fun h => absurd rfl h) (fun _ => ?_)
          clear hK K
          try simp only [Act.put, List.setIfInBounds_toArray, List.set_cons_zero, List.set_cons_succ]
          refine wpAnyZ_done (by kernel_rfl) ?_ _
          · go_wp2
            all_goals
              go_roundw
              case rel => exact ⟨i + 1, by go_num, hi1.out, by rw [HT.out, HS.out]; exact Lib.hid ⟨HIW.out.x.below hb3.out, own_mono1 (own_put0 ho3.out) hWz, HIW.out.bel.trans (hb3.out.mono hWz)⟩⟩
              case measure => simp [intOf]; omega
          repeat exact AllReadyZ.nil
    · obtain rfl : i = X.length := by omega
      simp only [List.take_length] at HI ⊢
      go_wp2
      go_ret
      exact ⟨_, rfl, HI.out.own, HI.out.bel⟩
end Go.Proofs.Ytaolpniigjmccaa.All
