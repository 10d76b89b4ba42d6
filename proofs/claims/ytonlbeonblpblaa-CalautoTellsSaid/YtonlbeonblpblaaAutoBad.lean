/-
  A calendar that isn't compiled: too many rules, or one that isn't right. No condition but that the rules lie as their row says. Written by a program (gen/autobad.py) out of Auto's walk.
-/
import Derived.Test.YtonlbeonblpblaaKeepP
import Derived.Laws.EntriesVeiled
namespace Go.Proofs.Ytonlbeonblpblaa.All
open Go.RowKit Go.Proofs.YtonlbeonblpblaaW.PrintWords Go.Proofs.YtonlbeonblpblaaW.PrintLast Go.Proofs.YtonlbeonblpblaaW.PrintMore Go.Proofs.Ytonlbeonblpblaa.Wd
set_option linter.unusedVariables false
set_option linter.unusedSimpArgs false
private theorem ym (motive : Option Value → Sort _) (h1 : (b : Bool) → motive (some (.bool b))) (h2 : (x : Option Value) → motive x) : Go.yielded.match_1 motive (some undef) h1 h2 = h2 (some undef) := rfl
attribute [local go_sem, local simp] ym
def BadPost (k : Int) (w : World) (e : Ending) (w' : World) : Prop := e = .returned (.tuple #[.agg #[.slice none 0 0, .int .i64 0, .bool false], .int .i64 k]) ∧ Below w.heap.size w w'
theorem comp_zero {w wr : World} {aB rB : Nat} {L : List Ru} {A : Option Addr} {c : Nat} {ks : List (Ru × Nat)} {N : Int × Bool} (h : CI w wr aB rB L A c ks N) (hr : w.heap.size ≤ rB) :
    (((wr.setCell { block := rB, off := 0 } (.slice none 0 0)).setCell { block := rB, off := 1 } (.int .i64 0)).setCell { block := rB, off := 2 } (.bool false)).heap[rB]? = some (.cells #[.slice none 0 0, .int .i64 0, .bool false] 32) ∧
    Below w.heap.size w (((wr.setCell { block := rB, off := 0 } (.slice none 0 0)).setCell { block := rB, off := 1 } (.int .i64 0)).setCell { block := rB, off := 2 } (.bool false)) := by
  have hC : Chg (· = rB) wr (((wr.setCell { block := rB, off := 0 } (.slice none 0 0)).setCell { block := rB, off := 1 } (.int .i64 0)).setCell { block := rB, off := 2 } (.bool false)) := Chg.setCell (S := (· = rB)) (Chg.setCell (S := (· = rB)) (Chg.setCell (S := (· = rB)) (Chg.refl _ _) (p := { block := rB, off := 0 }) rfl _) (p := { block := rB, off := 1 }) rfl _) (p := { block := rB, off := 2 }) rfl _
  refine ⟨?_, hC.below h.bel h.bel.size (fun k e => e ▸ hr)⟩
  simp [World.setCell, Array.getElem?_modify]
  simp [h.r]
set_option maxRecDepth 100000 in
theorem compile_full (A0 : Option Addr) (n c0 : Nat) (w : World) (hl : 16 < n) :
    Calls Try.prog 14 #[.slice A0 n c0] w (BadPost 6 w) := by
  have hdl : decide ((16 : Int) < (n : Int)) = true := decide_eq_true (by omega)
  have hb0 := Lib.hid (below_alloc (Below.refl w.heap.size w) (.cells #[.slice none 0 0, .int .i64 0, .bool false] 32))
  go_enter Try.func14, Try.ntmps14
  have hx := heap_alloc_new w (.cells #[.slice none 0 0, .int .i64 0, .bool false] 32)
  have q0 := cell_of_row _ w.heap.size 0 _ _ (0, 0) hx
  have q1 := cell_of_row _ w.heap.size 1 _ _ (0, 0) hx
  have q2 := cell_of_row _ w.heap.size 2 _ _ (0, 0) hx
  simp only [List.size_toArray, List.getElem?_toArray, List.getElem?_cons_zero, List.getElem?_cons_succ] at q0 q1 q2
  replace q0 := Lib.hid q0
  replace q1 := Lib.hid q1
  replace q2 := Lib.hid q2
  go_wp2
  have q0 := q0.out
  have q1 := q1.out
  have q2 := q2.out
  exact bodyPost_ret (v := .tuple #[.agg #[.slice none 0 0, .int .i64 0, .bool false], .int .i64 6]) (by simp [results, Try.results14, go_sem, q0, q1, q2]) rfl ⟨rfl, hb0.out⟩
set_option maxRecDepth 100000 in
set_option maxHeartbeats 4000000 in
theorem compile_bad {L : List Ru} {A0 : Option Addr} {c0 : Nat} {w : World} (hR : RuRow w w.heap.size A0 L) (hl : L.length ≤ 16) (hr : L.all rightB = false) :
    Calls Try.prog 14 #[.slice A0 L.length c0] w (BadPost 3 w) := by
  obtain ⟨i0, hi, hz0, hz1, hz2⟩ := info_parts keeper_info
  have hi' := Lib.hid hi
  clear hi
  have RC := Lib.hid (fun (r : Ru) (w : World) => right_calls r w)
  replace hR := Lib.hid hR
  replace hr := Lib.hid hr
  have hdl : decide ((16 : Int) < (L.length : Int)) = false := decide_eq_false (by omega)
  have hdn : decide (16 < L.length) = false := decide_eq_false (by omega)
  go_enter Try.func14, Try.ntmps14
  go_wp2
  have HI : Hid (CI w ((w.alloc (.cells #[.slice none 0 0, .int .i64 0, .bool false] 32)).alloc (.cells #[.slice none 0 0, .int .i64 0, .bool false] 32)) (w.heap.size + 1) w.heap.size (L.take 0) none 0 [] (0, false)) := by
    have h1 := heap_alloc_new (w.alloc (.cells #[.slice none 0 0, .int .i64 0, .bool false] 32)) (.cells #[.slice none 0 0, .int .i64 0, .bool false] 32)
    rw [World.size_alloc] at h1
    exact Lib.hid ⟨⟨⟨rfl, .inl ⟨rfl, rfl⟩⟩, fun p hp => by cases hp⟩, h1, blk_alloc (heap_alloc_new w _) _, rfl, rfl, below_alloc (below_alloc (Below.refl _ _) _) _, Nat.le_succ _, Nat.ne_of_lt (Nat.lt_succ_self _)⟩
  go_loopw [14] (fun v14 wr => ∃ i : Nat, v14 = .int .i64 i ∧ i ≤ L.length ∧ Hid (∃ A c ks N, CI w wr (w.heap.size + 1) w.heap.size (L.take i) A c ks N) ∧ Hid (∀ j (h : j < L.length), j < i → rightB L[j] = true)) (fun v14 _ => L.length - (intOf v14).toNat)
  case atStart => exact ⟨0, rfl, Nat.zero_le _, Lib.hid ⟨_, _, _, _, HI.out⟩, Lib.hid (fun j h h1 => absurd h1 (Nat.not_lt_zero _))⟩
  case round =>
    clear HI
    obtain ⟨i, rfl, hk, HI, HG⟩ := hrel
    obtain ⟨A, c, ks, N, HI⟩ := HI.out
    replace HI := Lib.hid HI
    by_cases hlt : i < L.length
    · obtain ⟨ad, rfl, hadb, hra⟩ := (hR.out.below HI.out.bel) (by omega)
      obtain ⟨c0, c1, c2⟩ := hra i hlt
      clear hra
      cases hrr : rightB L[i] with
      | false =>
        have RR := fun w => RC.out L[i] w
        rw [hrr] at RR
        replace RR := Lib.hid RR
        clear hrr HG
        generalize L[i] = r at *
        obtain ⟨rk, rl, rf⟩ := r
        dsimp only at c0 c1 c2
        go_upto_region 8 with (go_at_call 13; refine (RR.out _).mono ?_; rintro e w3 ⟨rfl, hb3⟩; replace HI := Lib.hid (HI.out.below ((below_alloc (Below.refl _ _) (.cells #[.int .i64 rk, .int .i64 rl, .int .i64 rf] 24)).trans (hb3.mono (by simp)))); clear hb3)
        have r0 := cell_of_row w3 w.heap.size 0 _ _ (0, 0) HI.out.r
        have r1 := cell_of_row w3 w.heap.size 1 _ _ (0, 0) HI.out.r
        have r2 := cell_of_row w3 w.heap.size 2 _ _ (0, 0) HI.out.r
        have s0 := frozen_of_row w3 w.heap.size 0 _ _ HI.out.r
        have s1 := frozen_of_row w3 w.heap.size 1 _ _ HI.out.r
        have s2 := frozen_of_row w3 w.heap.size 2 _ _ HI.out.r
        simp at r0 r1 r2
        obtain ⟨e1, e3⟩ := comp_zero HI.out (Nat.le_refl _)
        have q0 := cell_of_row _ w.heap.size 0 _ _ (0, 0) e1
        have q1 := cell_of_row _ w.heap.size 1 _ _ (0, 0) e1
        have q2 := cell_of_row _ w.heap.size 2 _ _ (0, 0) e1
        simp only [List.size_toArray, List.getElem?_toArray, List.getElem?_cons_zero, List.getElem?_cons_succ] at q0 q1 q2
        replace e3 := Lib.hid e3
        replace q0 := Lib.hid q0
        replace q1 := Lib.hid q1
        replace q2 := Lib.hid q2
        clear e1
        go_wp2
        have q0 := q0.out
        have q1 := q1.out
        have q2 := q2.out
        exact bodyPost_ret (v := .tuple #[.agg #[.slice none 0 0, .int .i64 0, .bool false], .int .i64 3]) (by simp [results, Try.results14, go_sem, q0, q1, q2]) rfl ⟨rfl, e3.out⟩
      | true =>
      have HG2 := Lib.hid (show ∀ j (h : j < L.length), j < i + 1 → rightB L[j] = true from fun j h h1 => by
        by_cases e : j = i
        · subst e; exact hrr
        · exact HG.out j h (by omega))
      have HN := Lib.hid (never_take hlt)
      have HK := Lib.hid (ks_take hlt)
      have hi1 := Lib.hid (show i + 1 ≤ L.length by omega)
      have hme : L.length - (i + 1) < L.length - i := by omega
      generalize L[i] = r at *
      obtain ⟨rk, rl, rf⟩ := r
      dsimp only at c0 c1 c2
      have RR := fun w => RC.out ⟨rk, rl, rf⟩ w
      rw [hrr] at RR
      replace RR := Lib.hid RR
      replace hrr := Lib.hid hrr
      obtain ⟨N1, N2⟩ := N
      go_upto_region 9 with (go_at_call 13; refine (RR.out _).mono ?_; rintro e w3 ⟨rfl, hb3⟩; have HB3 := Lib.hid (show Bo w3 wr.heap.size ⟨rk, rl, rf⟩ from (hb3.block _ (by simp)).trans (heap_alloc_new wr _)); replace HI := Lib.hid (HI.out.below ((below_alloc (Below.refl _ _) (.cells #[.int .i64 rk, .int .i64 rl, .int .i64 rf] 24)).trans (hb3.mono (by simp)))); clear hb3 c0 c1 c2; obtain ⟨b0, b1, b2⟩ := HB3.out.cells; dsimp only at b0 b1 b2; obtain ⟨a0, a1, a2, f0, f1, f2⟩ := HI.out.cells; dsimp only at a1 a2)
      have hbl := lt_heap HB3.out
      have hal := lt_heap HI.out.a
      generalize wr.heap.size = bx at *
      have hne1 : bx ≠ w3.heap.size := by omega
      have hne2 : w.heap.size + 1 ≠ w3.heap.size := by omega
      have hne3 : w3.heap.size ≠ w.heap.size + 1 := by omega
      have hkk : rk = 1 ∨ rk = 2 ∨ rk = 3 ∨ rk = 4 := by
        have := hrr.out
        unfold rightB at this
        dsimp only at this
        by_cases e1 : rk = 1 ∨ rk = 4
        · omega
        · rw [if_neg e1] at this
          by_cases e2 : rk = 2 ∨ rk = 3
          · omega
          · rw [if_neg e2] at this; cases this
      have hks : ks.length ≤ 16 := by
        have h1 := congrArg List.length HI.out.ru
        rw [List.length_map] at h1
        have h2 : (ksOf (L.take i)).length ≤ (L.take i).length := List.length_filter_le _ _
        rw [List.length_take] at h2
        omega
      have hx1 := Lib.hid (show ks.length + 1 ≤ maxLen ∧ (ks.length + 1) * 16 ≤ 140737488355328 by unfold maxLen; omega)
      have hwb := HI.out.bel.size
      have hks : ks.length ≤ 16 := by
        have h1 := congrArg List.length HI.out.ru
        rw [List.length_map] at h1
        have h2 : (ksOf (L.take i)).length ≤ (L.take i).length := List.length_filter_le _ _
        rw [List.length_take] at h2
        omega
      have hx1 := Lib.hid (show ks.length + 1 ≤ maxLen ∧ (ks.length + 1) * 16 ≤ 140737488355328 by unfold maxLen; omega)
      have hwb := HI.out.bel.size
      have hks : ks.length ≤ 16 := by
        have h1 := congrArg List.length HI.out.ru
        rw [List.length_map] at h1
        have h2 : (ksOf (L.take i)).length ≤ (L.take i).length := List.length_filter_le _ _
        rw [List.length_take] at h2
        omega
      have hx1 := Lib.hid (show ks.length + 1 ≤ maxLen ∧ (ks.length + 1) * 16 ≤ 140737488355328 by unfold maxLen; omega)
      have hwb := HI.out.bel.size
      rcases hkk with rfl | rfl | rfl | rfl
      · have HB5 := Lib.hid (show Below w3.heap.size w3 ((w3.alloc (.cells #[(.func (.func 30) #[] #[]), .int .i64 rf] 75)).alloc (.cells #[(.func (.func 30) #[] #[]), .int .i64 rf] 75)) from below_alloc (below_alloc (Below.refl _ _) _) _)
        have HE := Lib.hid (fun (A1 : Option Addr) (c1 : Nat) (w6 : World) (ho : w6.ownsRow w.heap.size 75 2 (.slice A1 (ks.length + 1) c1) (ks.length + 1) (kvs ks ++ [kfun ⟨1, rl, rf⟩ bx, .int .i64 rf])) (hg : ((w3.alloc (.cells #[(.func (.func 30) #[] #[]), .int .i64 rf] 75)).alloc (.cells #[(.func (.func 30) #[] #[]), .int .i64 rf] 75)).grownBy w6 (Value.slice A ks.length c).ownBlock) => comp_end (L' := L.take (i + 1)) (r := ⟨1, rl, rf⟩) HI.out HB3.out HB5.out ho hg (by rw [HK.out]; rfl) (by rw [HN.out, HI.out.nv]; rfl))
        have HO := Lib.hid (own_below HI.out.k.own HB5.out)
        have hnew : Hid (((w3.alloc (.cells #[(.func (.func 30) #[] #[]), .int .i64 rf] 75)).alloc (.cells #[(.func (.func 30) #[] #[]), .int .i64 rf] 75)).heap[w3.heap.size + 1]? = some (.cells #[(.func (.func 30) #[] #[]), .int .i64 rf] 75)) := Lib.hid (by have := heap_alloc_new (w3.alloc (.cells #[(.func (.func 30) #[] #[]), .int .i64 rf] 75)) (.cells #[(.func (.func 30) #[] #[]), .int .i64 rf] 75); rwa [World.size_alloc] at this)
        have hbz := Lib.hid (show w.heap.size ≤ ((w3.alloc (.cells #[(.func (.func 30) #[] #[]), .int .i64 rf] 75)).alloc (.cells #[(.func (.func 30) #[] #[]), .int .i64 rf] 75)).heap.size by simp; omega)
        go_wp2_with (at_builtin
                     refine wpList_append_any _ rfl _ _ 30 rfl w.heap.size 75 i0 _ 2 16 Try.underlying30 hi'.out hz0 hz1 hz2 rfl (by decide) _ _ _ rfl HO.out _ _ 1 1 _ rfl (reads2 hnew.out) (by simp [Value.oneCell']) hx1.out.1 hx1.out.2 hbz.out ?_
                     intro v1 w6 ho1 hg1 ha1
                     obtain ⟨A1, c1, rfl, hcap1⟩ := own_slice_cap ho1
                     obtain ⟨k1, k2, k3⟩ := HE.out _ _ _ ho1 hg1
                     replace k1 := Lib.hid k1
                     clear ho1 hg1 ha1 hcap1)
        go_roundw
        case rel => exact ⟨i + 1, by go_num, hi1.out, k1, HG2⟩
        case measure => simp [intOf]; omega
      · have HB5 := Lib.hid (show Below w3.heap.size w3 ((w3.alloc (.cells #[(.func (.func 31) #[] #[.pointer (some ⟨bx, 0, none⟩)]), .int .i64 rf] 75)).alloc (.cells #[(.func (.func 31) #[] #[.pointer (some ⟨bx, 0, none⟩)]), .int .i64 rf] 75)) from below_alloc (below_alloc (Below.refl _ _) _) _)
        have HE := Lib.hid (fun (A1 : Option Addr) (c1 : Nat) (w6 : World) (ho : w6.ownsRow w.heap.size 75 2 (.slice A1 (ks.length + 1) c1) (ks.length + 1) (kvs ks ++ [kfun ⟨2, rl, rf⟩ bx, .int .i64 rf])) (hg : ((w3.alloc (.cells #[(.func (.func 31) #[] #[.pointer (some ⟨bx, 0, none⟩)]), .int .i64 rf] 75)).alloc (.cells #[(.func (.func 31) #[] #[.pointer (some ⟨bx, 0, none⟩)]), .int .i64 rf] 75)).grownBy w6 (Value.slice A ks.length c).ownBlock) => comp_end (L' := L.take (i + 1)) (r := ⟨2, rl, rf⟩) HI.out HB3.out HB5.out ho hg (by rw [HK.out]; rfl) (by rw [HN.out, HI.out.nv]; rfl))
        have HO := Lib.hid (own_below HI.out.k.own HB5.out)
        have hnew : Hid (((w3.alloc (.cells #[(.func (.func 31) #[] #[.pointer (some ⟨bx, 0, none⟩)]), .int .i64 rf] 75)).alloc (.cells #[(.func (.func 31) #[] #[.pointer (some ⟨bx, 0, none⟩)]), .int .i64 rf] 75)).heap[w3.heap.size + 1]? = some (.cells #[(.func (.func 31) #[] #[.pointer (some ⟨bx, 0, none⟩)]), .int .i64 rf] 75)) := Lib.hid (by have := heap_alloc_new (w3.alloc (.cells #[(.func (.func 31) #[] #[.pointer (some ⟨bx, 0, none⟩)]), .int .i64 rf] 75)) (.cells #[(.func (.func 31) #[] #[.pointer (some ⟨bx, 0, none⟩)]), .int .i64 rf] 75); rwa [World.size_alloc] at this)
        have hbz := Lib.hid (show w.heap.size ≤ ((w3.alloc (.cells #[(.func (.func 31) #[] #[.pointer (some ⟨bx, 0, none⟩)]), .int .i64 rf] 75)).alloc (.cells #[(.func (.func 31) #[] #[.pointer (some ⟨bx, 0, none⟩)]), .int .i64 rf] 75)).heap.size by simp; omega)
        go_wp2_with (at_builtin
                     refine wpList_append_any _ rfl _ _ 30 rfl w.heap.size 75 i0 _ 2 16 Try.underlying30 hi'.out hz0 hz1 hz2 rfl (by decide) _ _ _ rfl HO.out _ _ 1 1 _ rfl (reads2 hnew.out) (by simp [Value.oneCell']) hx1.out.1 hx1.out.2 hbz.out ?_
                     intro v1 w6 ho1 hg1 ha1
                     obtain ⟨A1, c1, rfl, hcap1⟩ := own_slice_cap ho1
                     obtain ⟨k1, k2, k3⟩ := HE.out _ _ _ ho1 hg1
                     replace k1 := Lib.hid k1
                     clear ho1 hg1 ha1 hcap1)
        go_roundw
        case rel => exact ⟨i + 1, by go_num, hi1.out, k1, HG2⟩
        case measure => simp [intOf]; omega
      · have HB5 := Lib.hid (show Below w3.heap.size w3 ((w3.alloc (.cells #[(.func (.func 33) #[] #[.pointer (some ⟨bx, 0, none⟩)]), .int .i64 rf] 75)).alloc (.cells #[(.func (.func 33) #[] #[.pointer (some ⟨bx, 0, none⟩)]), .int .i64 rf] 75)) from below_alloc (below_alloc (Below.refl _ _) _) _)
        have HE := Lib.hid (fun (A1 : Option Addr) (c1 : Nat) (w6 : World) (ho : w6.ownsRow w.heap.size 75 2 (.slice A1 (ks.length + 1) c1) (ks.length + 1) (kvs ks ++ [kfun ⟨3, rl, rf⟩ bx, .int .i64 rf])) (hg : ((w3.alloc (.cells #[(.func (.func 33) #[] #[.pointer (some ⟨bx, 0, none⟩)]), .int .i64 rf] 75)).alloc (.cells #[(.func (.func 33) #[] #[.pointer (some ⟨bx, 0, none⟩)]), .int .i64 rf] 75)).grownBy w6 (Value.slice A ks.length c).ownBlock) => comp_end (L' := L.take (i + 1)) (r := ⟨3, rl, rf⟩) HI.out HB3.out HB5.out ho hg (by rw [HK.out]; rfl) (by rw [HN.out, HI.out.nv]; rfl))
        have HO := Lib.hid (own_below HI.out.k.own HB5.out)
        have hnew : Hid (((w3.alloc (.cells #[(.func (.func 33) #[] #[.pointer (some ⟨bx, 0, none⟩)]), .int .i64 rf] 75)).alloc (.cells #[(.func (.func 33) #[] #[.pointer (some ⟨bx, 0, none⟩)]), .int .i64 rf] 75)).heap[w3.heap.size + 1]? = some (.cells #[(.func (.func 33) #[] #[.pointer (some ⟨bx, 0, none⟩)]), .int .i64 rf] 75)) := Lib.hid (by have := heap_alloc_new (w3.alloc (.cells #[(.func (.func 33) #[] #[.pointer (some ⟨bx, 0, none⟩)]), .int .i64 rf] 75)) (.cells #[(.func (.func 33) #[] #[.pointer (some ⟨bx, 0, none⟩)]), .int .i64 rf] 75); rwa [World.size_alloc] at this)
        have hbz := Lib.hid (show w.heap.size ≤ ((w3.alloc (.cells #[(.func (.func 33) #[] #[.pointer (some ⟨bx, 0, none⟩)]), .int .i64 rf] 75)).alloc (.cells #[(.func (.func 33) #[] #[.pointer (some ⟨bx, 0, none⟩)]), .int .i64 rf] 75)).heap.size by simp; omega)
        go_wp2_with (at_builtin
                     refine wpList_append_any _ rfl _ _ 30 rfl w.heap.size 75 i0 _ 2 16 Try.underlying30 hi'.out hz0 hz1 hz2 rfl (by decide) _ _ _ rfl HO.out _ _ 1 1 _ rfl (reads2 hnew.out) (by simp [Value.oneCell']) hx1.out.1 hx1.out.2 hbz.out ?_
                     intro v1 w6 ho1 hg1 ha1
                     obtain ⟨A1, c1, rfl, hcap1⟩ := own_slice_cap ho1
                     obtain ⟨k1, k2, k3⟩ := HE.out _ _ _ ho1 hg1
                     replace k1 := Lib.hid k1
                     clear ho1 hg1 ha1 hcap1)
        go_roundw
        case rel => exact ⟨i + 1, by go_num, hi1.out, k1, HG2⟩
        case measure => simp [intOf]; omega
      · have HI4 := Lib.hid (HI.out.below (below_alloc (Below.refl _ _) (.cells #[.nilFunc, .int .i64 rf] 75)))
        have HKK := Lib.hid (show ksOf (L.take (i + 1)) = ksOf (L.take i) by rw [HK.out]; simp)
        cases N2 with
        | false =>
          have HE := Lib.hid ((HI.out.never (L' := L.take (i + 1)) rf HKK.out (by rw [HN.out, HI.out.nv]; rfl)).below (below_alloc (Below.refl _ _) (.cells #[.nilFunc, .int .i64 rf] 75)))
          go_wp2
          go_roundw
          case rel => exact ⟨i + 1, by go_num, hi1.out, Lib.hid ⟨_, _, _, _, HE.out⟩, HG2⟩
          case measure => simp [intOf]; omega
        | true =>
          by_cases hlf : rf < N1
          · have hlfd : decide (rf < N1) = true := decide_eq_true hlf
            have HE := Lib.hid ((HI.out.never (L' := L.take (i + 1)) rf HKK.out (by rw [HN.out, HI.out.nv]; unfold neverStep; rw [if_pos rfl, if_pos (.inr hlf)])).below (below_alloc (Below.refl _ _) (.cells #[.nilFunc, .int .i64 rf] 75)))
            go_wp2
            go_roundw
            case rel => exact ⟨i + 1, by go_num, hi1.out, Lib.hid ⟨_, _, _, _, HE.out⟩, HG2⟩
            case measure => simp [intOf]; omega
          · have hlfd : decide (rf < N1) = false := decide_eq_false hlf
            have HE := Lib.hid (HI4.out.same (L' := L.take (i + 1)) HKK.out (by rw [HN.out, HI.out.nv]; unfold neverStep; rw [if_pos rfl, if_neg (fun h => h.elim (fun h => by cases h) hlf)]))
            go_wp2
            go_roundw
            case rel => exact ⟨i + 1, by go_num, hi1.out, Lib.hid ⟨_, _, _, _, HE.out⟩, HG2⟩
            case measure => simp [intOf]; omega
    · obtain rfl : i = L.length := by omega
      exfalso
      have h1 := hr.out
      rw [List.all_eq_false] at h1
      obtain ⟨x, hx, hn⟩ := h1
      obtain ⟨j, hj, rfl⟩ := List.mem_iff_getElem.1 hx
      exact hn (HG.out j hj hj)
end Go.Proofs.Ytonlbeonblpblaa.All
