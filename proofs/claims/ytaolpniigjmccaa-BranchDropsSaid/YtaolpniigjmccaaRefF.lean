/-
  The document's Fork where it forks: a new list is made out of the front, the branch and the back, and the forest's head is turned to it. No condition but that the list lies as its rows say.
-/
import Derived.Test.YtaolpniigjmccaaHeldZ
namespace Go.Proofs.Ytaolpniigjmccaa.All
open Go.RowKit Go.Proofs.YtaolpniigjmccaaW.PrintWords Go.Proofs.YtaolpniigjmccaaW.PrintLast Go.Proofs.YtaolpniigjmccaaW.PrintMore Go.Proofs.Ytaolpniigjmccaa.Wd
set_option linter.unusedVariables false
set_option linter.unusedSimpArgs false
theorem own_e (w : World) (base g : Nat) (e : TypeId) (size : Nat) (hb : base ≤ w.heap.size) (hg : g = w.heap.size) : (w.alloc (.cells #[] e)).ownsRow base e size (.slice (some ⟨g, 0, none⟩) 0 0) 0 [] := by
  subst hg
  exact own_empty w base e size hb
theorem below_via {B : Nat} {a X cur w' : World} {row : Option Nat} (hX : Below B a X) (hg : cur.grownBy w' row) (e1 : cur.heap = X.heap) (e2 : cur.os = X.os) (e3 : cur.tape = X.tape) (e4 : cur.output = X.output) (hB : B ≤ X.heap.size) (hr : ∀ k, row = some k → B ≤ k) : Below B a w' :=
  Below.grown (w := cur) ⟨e2.trans hX.os, e3.trans hX.tape, e4.trans hX.output, by rw [e1]; exact hX.size, fun k hk => by rw [e1]; exact hX.block k hk⟩ hg (by rw [e1]; exact hB) hr
theorem reads_blk {w : World} {q : Nat} {t : TypeId} {cs : Array Value} (h : w.heap[q]? = some (.cells cs t)) (hs : cs.size = 4) : Reads w (q + 1) 4 (some ⟨q, 0, none⟩) 1 cs.toList := by
  refine ⟨by simpa using hs, fun _ => ⟨_, rfl, Nat.lt_succ_self _, fun j u hu => ?_⟩⟩
  have e1 : Addr.add ⟨q, 0, none⟩ j = ⟨q, j, none⟩ := by
    unfold Addr.add
    split
    · subst_vars; rfl
    · simp
  rw [e1, cell_of_row _ _ j _ _ (0, 0) h]
  simpa using hu
theorem reads_blk' {w : World} {B q : Nat} {t : TypeId} {cs : Array Value} (h : w.heap[q]? = some (.cells cs t)) (hs : cs.size = 4) (hB : q < B := by omega) : Reads w B 4 (some ⟨q, 0, none⟩) 1 cs.toList := (reads_blk h hs).more hB
theorem own_mono {w : World} {base base' : Nat} {e : TypeId} {size n : Nat} {v : Value} {xs : List Value} (h : w.ownsRow base e size v n xs) (hb : base' ≤ base) : w.ownsRow base' e size v n xs :=
  ⟨h.1, h.2.imp id fun ⟨g, cap, cur, e1, e2, e3⟩ => ⟨g, cap, cur, e1, Nat.le_trans hb e2, e3⟩⟩
theorem cells4 {w : World} {q : Nat} {t : TypeId} {a b c d : Value} (h : w.heap[q]? = some (.cells #[a, b, c, d] t)) : w.cell? { block := q, off := 0 } = some a ∧ w.cell? { block := q, off := 1 } = some b ∧ w.cell? { block := q, off := 2 } = some c ∧ w.cell? { block := q, off := 3 } = some d :=
  ⟨cell_of_row w q 0 _ _ (0, 0) h, cell_of_row w q 1 _ _ (0, 0) h, cell_of_row w q 2 _ _ (0, 0) h, cell_of_row w q 3 _ _ (0, 0) h⟩
set_option maxRecDepth 100000 in
set_option maxHeartbeats 2000000 in
theorem rfork_done {P T : List Br} {g c : Nat} {A : Option Addr} {w : World} (h : XAt w g A c (P ++ T)) (id p b n pn : Int) (hi0 : 1 ≤ id) (hi1 : id < 16) (hb : pn ≤ b) (hn : b < n) (hl : (P ++ T).length ≤ 16)
    (hP : ∀ x ∈ P, x.id < id) (hT : ∀ x ∈ T, id < x.id)
    (al : Int → Bool) (ha0 : al id = false) (ha1 : al p = true) (AC : ∀ j, Calls Try.prog 29 #[.pointer (some ⟨g, 0, none⟩), .int .i64 j] w fun e w' => e = .returned (.bool (al j)) ∧ w = w')
    (NC : Calls Try.prog 36 #[.pointer (some ⟨g, 0, none⟩), .int .i64 p] w fun e w' => e = .returned (.int .u64 pn) ∧ w = w') :
    Calls Try.prog 31 #[.pointer (some ⟨g, 0, none⟩), .int .i64 id, .int .i64 p, .int .u64 b, .int .u64 n] w fun e w' => e = .returned (.int .i64 0) ∧ (∃ A' c', XAt w' g A' c' (P ++ [⟨id, p, b, n⟩] ++ T)) ∧ Chg (· = g) w w' := by
  have hc := h.cell
  have hfr := h.frozen
  have HH := Lib.hid h
  replace AC := Lib.hid AC
  replace NC := Lib.hid NC
  have b0 : decide (id < 1) = false := decide_eq_false (by omega)
  have b1 : decide (15 < id) = false := decide_eq_false (by omega)
  have b2 : decide (b < pn) = false := decide_eq_false (by omega)
  have b3 : decide (n ≤ b) = false := decide_eq_false (by omega)
  replace hP := Lib.hid hP
  replace hT := Lib.hid hT
  clear h
  generalize hX : P ++ T = X at *
  generalize hY : P ++ [(⟨id, p, b, n⟩ : Br)] ++ T = Y at *
  go_enter Try.func31, Try.ntmps31
  go_wp2_with (first | (go_at_call 29; refine (AC.out _).mono ?_; rintro e w' ⟨rfl, rfl⟩) | (go_at_call 36; refine NC.out.mono ?_; rintro e w' ⟨rfl, rfl⟩))
  obtain ⟨i0, hi, hz0, hz1, hz2⟩ := info_parts br_info
  have hi' := Lib.hid hi
  clear hi
  have hglt := HH.out.lt
  have hhd := Lib.hid HH.out.head
  have hcap := HH.out.cap
  have hR := HH.out.reads
  have hXl : P.length ≤ X.length := by rw [← hX, List.length_append]; omega
  have hcs0 : brcs Y = [] ++ (brcs X).take (P.length * 4) ++ [.int .i64 id, .int .i64 p, .int .u64 b, .int .u64 n] ++ (brcs X).drop (P.length * 4) := by
    rw [← hY, ← hX, brcs_take, brcs_drop, List.take_left, List.drop_left, brcs_append, brcs_append]
    rfl
  have hlen0 : Y.length = 0 + P.length + 1 + (X.length - P.length) := by
    rw [← hY, ← hX, List.length_append, List.length_append, List.length_append, List.length_singleton]
    omega
  have hcs := Lib.hid hcs0
  have hlen := Lib.hid hlen0
  clear hcs0 hlen0 hY
  have hR1 := Lib.hid (hR.take (i := P.length) hXl)
  have hR2 := Lib.hid (hR.cut (k := P.length) (cap := c) hXl hcap)
  clear hR
  have o1 := Lib.hid (fun u (hu : u ∈ (brcs X).take (P.length * 4)) => brcs_one X u (List.mem_of_mem_take hu))
  have o2 := Lib.hid (fun u (hu : u ∈ (brcs X).drop (P.length * 4)) => brcs_one X u (List.mem_of_mem_drop hu))
  have hx1 := Lib.hid (show 0 + P.length ≤ maxLen ∧ (0 + P.length) * 32 ≤ 140737488355328 ∧ 0 + P.length + 1 ≤ maxLen ∧ (0 + P.length + 1) * 32 ≤ 140737488355328 ∧ 0 + P.length + 1 + (X.length - P.length) ≤ maxLen ∧ (0 + P.length + 1 + (X.length - P.length)) * 32 ≤ 140737488355328 by unfold maxLen; omega)
  have hXc : Hid (Below w.heap.size w ((w.alloc (.cells #[.int .i64 id, .int .i64 p, .int .u64 b, .int .u64 n] 76)).alloc (.cells #[] 76))) := Lib.hid (below_alloc (below_alloc (Below.refl _ _) _) _)
  have hXb : Hid (Below w.heap.size w (((w.alloc (.cells #[.int .i64 id, .int .i64 p, .int .u64 b, .int .u64 n] 76)).alloc (.cells #[] 76)).alloc (.cells #[.int .i64 id, .int .i64 p, .int .u64 b, .int .u64 n] 76))) := Lib.hid (below_alloc (below_alloc (below_alloc (Below.refl _ _) _) _) _)
  have hXa : Hid (Below w.heap.size w (((w.alloc (.cells #[.int .i64 id, .int .i64 p, .int .u64 b, .int .u64 n] 76)).alloc (.cells #[.int .i64 id, .int .i64 p, .int .u64 b, .int .u64 n] 76)).alloc (.cells #[] 76))) := Lib.hid (below_alloc (below_alloc (below_alloc (Below.refl _ _) _) _) _)
  have hR1c := Lib.hid (hR1.out.below hXc.out)
  have hR1b := Lib.hid (hR1.out.below hXb.out)
  have hR1a := Lib.hid (hR1.out.below hXa.out)
  have hXcB : Hid (((w.alloc (.cells #[.int .i64 id, .int .i64 p, .int .u64 b, .int .u64 n] 76)).alloc (.cells #[] 76)).heap[w.heap.size]? = some (.cells #[.int .i64 id, .int .i64 p, .int .u64 b, .int .u64 n] 76)) := Lib.hid (blk_alloc (heap_alloc_new w _) _)
  have hXbB : Hid ((((w.alloc (.cells #[.int .i64 id, .int .i64 p, .int .u64 b, .int .u64 n] 76)).alloc (.cells #[] 76)).alloc (.cells #[.int .i64 id, .int .i64 p, .int .u64 b, .int .u64 n] 76)).heap[w.heap.size]? = some (.cells #[.int .i64 id, .int .i64 p, .int .u64 b, .int .u64 n] 76)) := Lib.hid (blk_alloc (blk_alloc (heap_alloc_new w _) _) _)
  have hXaB : Hid ((((w.alloc (.cells #[.int .i64 id, .int .i64 p, .int .u64 b, .int .u64 n] 76)).alloc (.cells #[.int .i64 id, .int .i64 p, .int .u64 b, .int .u64 n] 76)).alloc (.cells #[] 76)).heap[w.heap.size]? = some (.cells #[.int .i64 id, .int .i64 p, .int .u64 b, .int .u64 n] 76)) := Lib.hid (blk_alloc (blk_alloc (heap_alloc_new w _) _) _)
  have hXbQ : Hid ((((w.alloc (.cells #[.int .i64 id, .int .i64 p, .int .u64 b, .int .u64 n] 76)).alloc (.cells #[] 76)).alloc (.cells #[.int .i64 id, .int .i64 p, .int .u64 b, .int .u64 n] 76)).heap[w.heap.size + 1 + 1]? = some (.cells #[.int .i64 id, .int .i64 p, .int .u64 b, .int .u64 n] 76)) := Lib.hid (by have := heap_alloc_new ((w.alloc (.cells #[.int .i64 id, .int .i64 p, .int .u64 b, .int .u64 n] 76)).alloc (.cells #[] 76)) (.cells #[.int .i64 id, .int .i64 p, .int .u64 b, .int .u64 n] 76); rwa [World.size_alloc, World.size_alloc] at this)
  have hXaQ : Hid ((((w.alloc (.cells #[.int .i64 id, .int .i64 p, .int .u64 b, .int .u64 n] 76)).alloc (.cells #[.int .i64 id, .int .i64 p, .int .u64 b, .int .u64 n] 76)).alloc (.cells #[] 76)).heap[w.heap.size + 1]? = some (.cells #[.int .i64 id, .int .i64 p, .int .u64 b, .int .u64 n] 76)) := Lib.hid (by have := blk_alloc (heap_alloc_new (w.alloc (.cells #[.int .i64 id, .int .i64 p, .int .u64 b, .int .u64 n] 76)) (.cells #[.int .i64 id, .int .i64 p, .int .u64 b, .int .u64 n] 76)) (.cells #[] 76); rwa [World.size_alloc] at this)
  have g1 : g < w.heap.size + 1 := by omega
  have g2 : g < w.heap.size + 1 + 1 := by omega
  have g3 : g < w.heap.size + 1 + 1 + 1 := by omega
  have g4 : w.heap.size < w.heap.size + 1 := by omega
  have g5 : w.heap.size < w.heap.size + 1 + 1 := by omega
  have q0 : (0 : Int) ≤ (P.length : Int) := by omega
  have q1 : (P.length : Int) ≤ (X.length : Int) := by omega
  have q2 : (P.length : Int) ≤ (c : Int) := by omega
  have hm : Hid (P.length ≤ X.length) := Lib.hid hXl
  go_loop [11] (fun v11 => ∃ k : Nat, k ≤ P.length ∧ v11 = .int .i64 k) (fun v11 => X.length - (intOf v11).toNat)
  case atStart => exact ⟨0, Nat.zero_le _, rfl⟩
  case round =>
    obtain ⟨k, hk, rfl⟩ := hrel
    have hm' := hm.out
    by_cases hkp : k < P.length
    · have hlt : k < X.length := by omega
      obtain ⟨blk, rfl, e0, e1, e2, e3⟩ := HH.out.row.at hlt
      clear e1 e2 e3
      have hy : decide (X[k].id < id) = true := decide_eq_true (by
          have : X[k] = P[k] := by subst hX; exact List.getElem_append_left hkp
          rw [this]; exact hP.out _ (List.getElem_mem hkp))
      generalize X[k].id = y at *
      go_wp2
      go_round
      case rel => exact ⟨k + 1, by omega, by go_num⟩
      case measure => simp [intOf]; omega
    · have hkk : k = P.length := by omega
      have hTy := Lib.hid (fun (h : P.length < X.length) => (by
          have : X[P.length] ∈ T := by
            subst hX
            rw [List.getElem_append_right (Nat.le_refl _)]
            exact List.getElem_mem _
          have := hT.out _ this
          omega : ¬ X[P.length].id < id))
      subst hkk
      clear hP hT hX
      by_cases hlt : P.length < X.length
      obtain ⟨blk, rfl, e0, e1, e2, e3⟩ := HH.out.row.at hlt
      clear e1 e2 e3
      have hy : decide (X[P.length].id < id) = false := decide_eq_false (hTy.out hlt)
      generalize X[P.length].id = y at *
      have hR2 := Lib.hid (show Reads w w.heap.size 4 (if c = P.length then some { block := blk, off := 0 } else some { block := blk, off := P.length * 4 }) (X.length - P.length) ((brcs X).drop (P.length * 4)) by
        have h := hR2.out
        have e : Option.map (fun x => Addr.add x (P.length * 4)) (some { block := blk, off := 0 }) = some { block := blk, off := P.length * 4 } := by
          show some (Addr.add _ _) = _
          unfold Addr.add
          split
          · rename_i e0; rw [e0]
          · simp
        rw [e] at h
        exact h)
      have hR3 := Lib.hid (show Reads w w.heap.size 4 (some { block := blk, off := P.length * 4 }) (X.length - P.length) ((brcs X).drop (P.length * 4)) by
        have h := hR2.out
        rw [if_neg (by omega)] at h
        exact h)
      go_wp2
      rotate_left
      have hR3 := hR2
      go_wp2
      all_goals
        have hS0 := And.intro ((below_drew (below_alloc (Below.refl w.heap.size w) (.cells #[.int .i64 id, .int .i64 p, .int .u64 b, .int .u64 n] 76))).cell (p := { block := g, off := 0 }) hglt |>.trans hc) (cells4 (w := (w.alloc (.cells #[.int .i64 id, .int .i64 p, .int .u64 b, .int .u64 n] 76)).drew) (heap_alloc_new w _))
        refine wp_region_z_drew (S := fun w' => w'.cell? { block := g, off := 0 } = some (.slice _ X.length c) ∧ w'.cell? { block := w.heap.size, off := 0 } = some (.int .i64 id) ∧ w'.cell? { block := w.heap.size, off := 1 } = some (.int .i64 p) ∧ w'.cell? { block := w.heap.size, off := 2 } = some (.int .u64 b) ∧ w'.cell? { block := w.heap.size, off := 3 } = some (.int .u64 n)) (z := 21) (by kernel_rfl) hS0 (fun hHeld => ?_)
        refine wpAnyZ_take1 0 rfl (by decide) (by kernel_rfl) (by kernel_rfl) (by kernel_rfl) (by kernel_rfl) (fun d v c a w h => by cases d <;> exact h) (by assumption) ⟨?_, ?_, ?_, Or.inl ⟨?_, ?_⟩, ?_⟩
        rotate_left
        · simp only [List.getElem?_toArray, List.getElem?_cons_zero, List.getElem?_cons_succ]; rfl
        rotate_left
        · rfl
        · intro w hSw; (try dsimp only at hSw); go_simp; try (with_reducible rfl)
        simp only [Act.put, List.setIfInBounds_toArray, List.set_cons_zero, List.set_cons_succ]
        refine wpAnyZ_take1 2 rfl (by decide) (by kernel_rfl) (by kernel_rfl) (by kernel_rfl) (by kernel_rfl) (fun d v c a w h => by cases d <;> exact h) (by assumption) ⟨?_, ?_, ?_, Or.inl ⟨?_, ?_⟩, ?_⟩
        rotate_left
        · simp only [List.getElem?_toArray, List.getElem?_cons_zero, List.getElem?_cons_succ]; rfl
        rotate_left
        · rfl
        · intro w hSw; (try dsimp only at hSw); go_simp; try (with_reducible rfl)
        simp only [Act.put, List.setIfInBounds_toArray, List.set_cons_zero, List.set_cons_succ]
        refine wpAnyZ_take1 3 rfl (by decide) (by kernel_rfl) (by kernel_rfl) (by kernel_rfl) (by kernel_rfl) (fun d v c a w h => by cases d <;> exact h) (by assumption) ⟨?_, ?_, ?_, Or.inl ⟨?_, ?_⟩, ?_⟩
        rotate_left
        · simp only [List.getElem?_toArray, List.getElem?_cons_zero, List.getElem?_cons_succ]; rfl
        rotate_left
        · rfl
        · intro w hSw; (try dsimp only at hSw); go_simp; try (with_reducible rfl)
        simp only [Act.put, List.setIfInBounds_toArray, List.set_cons_zero, List.set_cons_succ]
        refine wpAnyZ_take1 4 rfl (by decide) (by kernel_rfl) (by kernel_rfl) (by kernel_rfl) (by kernel_rfl) (fun d v c a w h => by cases d <;> exact h) (by assumption) ⟨?_, ?_, ?_, Or.inl ⟨?_, ?_⟩, ?_⟩
        rotate_left
        · simp only [List.getElem?_toArray, List.getElem?_cons_zero, List.getElem?_cons_succ]; rfl
        rotate_left
        · rfl
        · intro w hSw; (try dsimp only at hSw); go_simp; try (with_reducible rfl)
        simp only [Act.put, List.setIfInBounds_toArray, List.set_cons_zero, List.set_cons_succ]
        refine wpAnyZ_take1 5 rfl (by decide) (by kernel_rfl) (by kernel_rfl) (by kernel_rfl) (by kernel_rfl) (fun d v c a w h => by cases d <;> exact h) (by assumption) ⟨?_, ?_, ?_, Or.inl ⟨?_, ?_⟩, ?_⟩
        rotate_left
        · simp only [List.getElem?_toArray, List.getElem?_cons_zero, List.getElem?_cons_succ]; rfl
        rotate_left
        · rfl
        · intro w hSw; (try dsimp only at hSw); go_simp; try (with_reducible rfl)
        simp only [Act.put, List.setIfInBounds_toArray, List.set_cons_zero, List.set_cons_succ]
        refine wpAnyZ_take1 6 rfl (by decide) (by kernel_rfl) (by kernel_rfl) (by kernel_rfl) (by kernel_rfl) (fun d v c a w h => by cases d <;> exact h) (by assumption) ⟨?_, ?_, ?_, Or.inl ⟨?_, ?_⟩, ?_⟩
        rotate_left
        · simp only [List.getElem?_toArray, List.getElem?_cons_zero, List.getElem?_cons_succ]; rfl
        rotate_left
        · rfl
        · intro w hSw; (try dsimp only at hSw); go_simp; try (with_reducible rfl)
        simp only [Act.put, List.setIfInBounds_toArray, List.set_cons_zero, List.set_cons_succ]
        refine wpAnyZ_take1 7 rfl (by decide) (by kernel_rfl) (by kernel_rfl) (by kernel_rfl) (by kernel_rfl) (fun d v c a w h => by cases d <;> exact h) (by assumption) ⟨?_, ?_, ?_, Or.inl ⟨?_, ?_⟩, ?_⟩
        rotate_left
        · simp only [List.getElem?_toArray, List.getElem?_cons_zero, List.getElem?_cons_succ]; rfl
        rotate_left
        · rfl
        · intro w hSw; (try dsimp only at hSw); go_simp; try (with_reducible rfl)
        simp only [Act.put, List.setIfInBounds_toArray, List.set_cons_zero, List.set_cons_succ]
        refine wpAnyZ_take1 9 rfl (by decide) (by kernel_rfl) (by kernel_rfl) (by kernel_rfl) (by kernel_rfl) (fun d v c a w h => by cases d <;> exact h) (by assumption) ⟨?_, ?_, ?_, Or.inl ⟨?_, ?_⟩, ?_⟩
        rotate_left
        · simp only [List.getElem?_toArray, List.getElem?_cons_zero, List.getElem?_cons_succ]; rfl
        rotate_left
        · rfl
        · intro w hSw; (try dsimp only at hSw); go_simp; try (with_reducible rfl)
        simp only [Act.put, List.setIfInBounds_toArray, List.set_cons_zero, List.set_cons_succ]
        refine wpAnyZ_take1 12 rfl (by decide) (by kernel_rfl) (by kernel_rfl) (by kernel_rfl) (by kernel_rfl) (fun d v c a w h => by cases d <;> exact h) (by assumption) ⟨?_, ?_, ?_, Or.inl ⟨?_, ?_⟩, ?_⟩
        rotate_left
        · simp only [List.getElem?_toArray, List.getElem?_cons_zero, List.getElem?_cons_succ]; rfl
        rotate_left
        · rfl
        · intro w hSw; (try dsimp only at hSw); go_simp; try (with_reducible rfl)
        simp only [Act.put, List.setIfInBounds_toArray, List.set_cons_zero, List.set_cons_succ]
        refine wpAnyZ_take1 13 rfl (by decide) (by kernel_rfl) (by kernel_rfl) (by kernel_rfl) (by kernel_rfl) (fun d v c a w h => by cases d <;> exact h) (by assumption) ⟨?_, ?_, ?_, Or.inl ⟨?_, ?_⟩, ?_⟩
        rotate_left
        · simp only [List.getElem?_toArray, List.getElem?_cons_zero, List.getElem?_cons_succ]; rfl
        rotate_left
        · rfl
        · intro w hSw; (try dsimp only at hSw); go_simp; try (with_reducible rfl)
        simp only [Act.put, List.setIfInBounds_toArray, List.set_cons_zero, List.set_cons_succ]
        refine wpAnyZ_take1 14 rfl (by decide) (by kernel_rfl) (by kernel_rfl) (by kernel_rfl) (by kernel_rfl) (fun d v c a w h => by cases d <;> exact h) (by assumption) ⟨?_, ?_, ?_, Or.inl ⟨?_, ?_⟩, ?_⟩
        rotate_left
        · simp only [List.getElem?_toArray, List.getElem?_cons_zero, List.getElem?_cons_succ]; rfl
        rotate_left
        · rfl
        · intro w hSw; (try dsimp only at hSw); go_simp; try (with_reducible rfl)
        simp only [Act.put, List.setIfInBounds_toArray, List.set_cons_zero, List.set_cons_succ]
        refine wpAnyZ_take1 15 rfl (by decide) (by kernel_rfl) (by kernel_rfl) (by kernel_rfl) (by kernel_rfl) (fun d v c a w h => by cases d <;> exact h) (by assumption) ⟨?_, ?_, ?_, Or.inl ⟨?_, ?_⟩, ?_⟩
        rotate_left
        · simp only [List.getElem?_toArray, List.getElem?_cons_zero, List.getElem?_cons_succ]; rfl
        rotate_left
        · rfl
        · intro w hSw; (try dsimp only at hSw); go_simp; try (with_reducible rfl)
        simp only [Act.put, List.setIfInBounds_toArray, List.set_cons_zero, List.set_cons_succ]
        refine wpAnyZ_take1 16 rfl (by decide) (by kernel_rfl) (by kernel_rfl) (by kernel_rfl) (by kernel_rfl) (fun d v c a w h => by cases d <;> exact h) (by assumption) ⟨?_, ?_, ?_, Or.inl ⟨?_, ?_⟩, ?_⟩
        rotate_left
        · simp only [List.getElem?_toArray, List.getElem?_cons_zero, List.getElem?_cons_succ]; rfl
        rotate_left
        · rfl
        · intro w hSw; (try dsimp only at hSw); go_simp; try (with_reducible rfl)
        simp only [Act.put, List.setIfInBounds_toArray, List.set_cons_zero, List.set_cons_succ]
        refine wpAnyZ_take1 17 rfl (by decide) (by kernel_rfl) (by kernel_rfl) (by kernel_rfl) (by kernel_rfl) (fun d v c a w h => by cases d <;> exact h) (by assumption) ⟨?_, ?_, ?_, Or.inl ⟨?_, ?_⟩, ?_⟩
        rotate_left
        · simp only [List.getElem?_toArray, List.getElem?_cons_zero, List.getElem?_cons_succ]; rfl
        rotate_left
        · rfl
        · intro w hSw; (try dsimp only at hSw); go_simp; try (with_reducible rfl)
        simp only [Act.put, List.setIfInBounds_toArray, List.set_cons_zero, List.set_cons_succ]
        have hWB : Hid (Below w.heap.size w (w.alloc (.cells #[.int .i64 id, .int .i64 p, .int .u64 b, .int .u64 n] 76)).drew) := Lib.hid (below_drew (below_alloc (Below.refl _ _) _))
        have hWz : w.heap.size ≤ (w.alloc (.cells #[.int .i64 id, .int .i64 p, .int .u64 b, .int .u64 n] 76)).drew.heap.size := hWB.out.size
        have hWg : g < (w.alloc (.cells #[.int .i64 id, .int .i64 p, .int .u64 b, .int .u64 n] 76)).drew.heap.size := Nat.lt_of_lt_of_le hglt hWz
        have hWb : w.heap.size < (w.alloc (.cells #[.int .i64 id, .int .i64 p, .int .u64 b, .int .u64 n] 76)).drew.heap.size := by simp
        have R1W := Lib.hid ((hR1.out.below hWB.out).more hWz)
        have R2W := Lib.hid ((hR2.out.below hWB.out).more hWz)
        have R3W := Lib.hid ((hR3.out.below hWB.out).more hWz)
        have hWf : (w.alloc (.cells #[.int .i64 id, .int .i64 p, .int .u64 b, .int .u64 n] 76)).drew.frozen? { block := g, off := 0 } = false := (hWB.out.frozen (p := { block := g, off := 0 }) hglt).trans hfr
        have KS := Lib.hid (fun (w' : World) (h : Below (w.alloc (.cells #[.int .i64 id, .int .i64 p, .int .u64 b, .int .u64 n] 76)).drew.heap.size (w.alloc (.cells #[.int .i64 id, .int .i64 p, .int .u64 b, .int .u64 n] 76)).drew w') => (⟨⟨(h.cell (p := { block := g, off := 0 }) hWg).trans hHeld.1, (h.cell (p := { block := w.heap.size, off := 0 }) hWb).trans hHeld.2.1, (h.cell (p := { block := w.heap.size, off := 1 }) hWb).trans hHeld.2.2.1, (h.cell (p := { block := w.heap.size, off := 2 }) hWb).trans hHeld.2.2.2.1, (h.cell (p := { block := w.heap.size, off := 3 }) hWb).trans hHeld.2.2.2.2⟩, (h.frozen (p := { block := g, off := 0 }) hWg).trans hWf⟩ : (w'.cell? { block := g, off := 0 } = some (.slice _ X.length c) ∧ w'.cell? { block := w.heap.size, off := 0 } = some (.int .i64 id) ∧ w'.cell? { block := w.heap.size, off := 1 } = some (.int .i64 p) ∧ w'.cell? { block := w.heap.size, off := 2 } = some (.int .u64 b) ∧ w'.cell? { block := w.heap.size, off := 3 } = some (.int .u64 n)) ∧ w'.frozen? { block := g, off := 0 } = false))
        clear hHeld hS0 hfr hc hXc hXb hXa hR1c hR1b hR1a hXcB hXbB hXaB hXbQ hXaQ g1 g2 g3 g4 g5
        generalize (w.alloc (.cells #[.int .i64 id, .int .i64 p, .int .u64 b, .int .u64 n] 76)).drew = W at *
        refine wpAnyZ_ready (rs := [1, 10]) (by kernel_rfl) (by simp) ?_
        refine AllReadyZ.cons1 ⟨?_, ?_, fun K hK => ?_⟩ ?_
        rotate_left
        · simp only [List.getElem?_toArray, List.getElem?_cons_zero, List.getElem?_cons_succ]; rfl
        go_simp
        refine hK.out _ _ (fun _ => ?_) (fun _ => ?_)
        · exact (KS.out _ (below_alloc (Below.refl _ _) _)).1
        clear hK K
        try simp only [Act.put, List.setIfInBounds_toArray, List.set_cons_zero, List.set_cons_succ]
        refine wpAnyZ_ready (rs := [8, 10]) (by kernel_rfl) (by simp) ?_
        refine AllReadyZ.cons1 ⟨?_, ?_, fun K hK => ?_⟩ ?_
        rotate_left
        · simp only [List.getElem?_toArray, List.getElem?_cons_zero, List.getElem?_cons_succ]; rfl
        refine step_append_any _ rfl (.tmp 63) (.tmp 69) 45 rfl W.heap.size 76 i0 _ 4 32 Try.underlying45 hi'.out hz0 hz1 hz2 rfl (by decide) (.slice (some ⟨W.heap.size, 0, none⟩) 0 0) 0 [] rfl (own_empty W _ _ _ (Nat.le_refl _)) W.heap.size _ P.length c ((brcs X).take (P.length * 4)) rfl (R1W.out.alloc (Nat.le_refl _) _) o1.out hx1.out.1 hx1.out.2.1 (by simp) ?_
        intro v1 w1 ho1 hg1 ha1
        have hb1 : Below W.heap.size W w1 := below_via (below_alloc (Below.refl _ W) (.cells #[] 76)) hg1 rfl rfl rfl rfl (by simp) (own_base (own_empty W _ 76 4 (Nat.le_refl _)))
        have ks1 := KS.out _ hb1
        replace hb1 := Lib.hid hb1
        replace ho1 := Lib.hid ho1
        replace hg1 := Lib.hid hg1
        clear ha1
        refine hK.out _ _ (fun _ => ?_) (fun _ => ?_)
        · exact ks1.1
        clear hK K
        try simp only [Act.put, List.setIfInBounds_toArray, List.set_cons_zero, List.set_cons_succ]
        refine wpAnyZ_ready (rs := [10]) (by kernel_rfl) (by simp) ?_
        refine AllReadyZ.cons1 ⟨?_, ?_, fun K hK => ?_⟩ ?_
        rotate_left
        · simp only [List.getElem?_toArray, List.getElem?_cons_zero, List.getElem?_cons_succ]; rfl
        go_simp
        refine hK.out _ _ (fun _ => ?_) (fun _ => ?_)
        · exact (KS.out _ (below_alloc hb1.out _)).1
        clear hK K
        try simp only [Act.put, List.setIfInBounds_toArray, List.set_cons_zero, List.set_cons_succ]
        refine wpAnyZ_ready (rs := [11]) (by kernel_rfl) (by simp) ?_
        refine AllReadyZ.cons1 ⟨?_, ?_, fun K hK => ?_⟩ ?_
        rotate_left
        · simp only [List.getElem?_toArray, List.getElem?_cons_zero, List.getElem?_cons_succ]; rfl
        refine step_append_any _ rfl (.tmp 70) (.tmp 72) 45 rfl W.heap.size 76 i0 _ 4 32 Try.underlying45 hi'.out hz0 hz1 hz2 rfl (by decide) v1 (0 + P.length) ([] ++ (brcs X).take (P.length * 4)) rfl (World.ownsRow.alloc ho1.out (.cells #[.int .i64 id, .int .i64 p, .int .u64 b, .int .u64 n] 76)) _ _ 1 1 [.int .i64 id, .int .i64 p, .int .u64 b, .int .u64 n] rfl (reads_blk (heap_alloc_new w1 (.cells #[.int .i64 id, .int .i64 p, .int .u64 b, .int .u64 n] 76)) rfl) (by simp [Value.oneCell']) hx1.out.2.2.1 hx1.out.2.2.2.1 (below_alloc hb1.out (.cells #[.int .i64 id, .int .i64 p, .int .u64 b, .int .u64 n] 76)).size ?_
        intro v2 w2 ho2 hg2 ha2
        have hb2 : Below W.heap.size W w2 := below_via (below_alloc hb1.out (.cells #[.int .i64 id, .int .i64 p, .int .u64 b, .int .u64 n] 76)) hg2 rfl rfl rfl rfl (below_alloc hb1.out (.cells #[.int .i64 id, .int .i64 p, .int .u64 b, .int .u64 n] 76)).size (own_base ho1.out)
        have ks2 := KS.out _ hb2
        replace hb2 := Lib.hid hb2
        replace ho2 := Lib.hid ho2
        replace hg2 := Lib.hid hg2
        clear ha2
        refine hK.out _ _ (fun _ => ?_) (fun _ => ?_)
        · exact ks2.1
        clear hK K
        try simp only [Act.put, List.setIfInBounds_toArray, List.set_cons_zero, List.set_cons_succ]
        refine wpAnyZ_ready (rs := [18]) (by kernel_rfl) (by simp) ?_
        refine AllReadyZ.cons1 ⟨?_, ?_, fun K hK => ?_⟩ ?_
        rotate_left
        · simp only [List.getElem?_toArray, List.getElem?_cons_zero, List.getElem?_cons_succ]; rfl
        refine step_append_any _ rfl (.tmp 73) (.tmp 79) 45 rfl W.heap.size 76 i0 _ 4 32 Try.underlying45 hi'.out hz0 hz1 hz2 rfl (by decide) v2 (0 + P.length + 1) ([] ++ (brcs X).take (P.length * 4) ++ [.int .i64 id, .int .i64 p, .int .u64 b, .int .u64 n]) rfl ho2.out W.heap.size _ (X.length - P.length) (c - P.length) ((brcs X).drop (P.length * 4)) rfl (by first | exact R2W.out.below hb2.out | exact R3W.out.below hb2.out) o2.out hx1.out.2.2.2.2.1 hx1.out.2.2.2.2.2 hb2.out.size ?_
        intro v3 w3 ho3 hg3 ha3
        have hb3 : Below W.heap.size W w3 := below_via hb2.out hg3 rfl rfl rfl rfl hb2.out.size (own_base ho2.out)
        have ks3 := KS.out _ hb3
        replace hb3 := Lib.hid hb3
        replace ho3 := Lib.hid ho3
        replace hg3 := Lib.hid hg3
        clear ha3
        obtain ⟨A3, c3, rfl⟩ := own_slice ho3.out
        obtain ⟨ksa, ksb⟩ := ks3
        have ksc := ksa.1
        refine hK.out _ _ (fun _ => ?_) (fun _ => ?_)
        · exact ksa
        clear hK K
        try simp only [Act.put, List.setIfInBounds_toArray, List.set_cons_zero, List.set_cons_succ]
        refine wpAnyZ_ready (rs := [19]) (by kernel_rfl) (by simp) ?_
        refine AllReadyZ.cons1 ⟨?_, ?_, fun K hK => ?_⟩ ?_
        rotate_left
        · simp only [List.getElem?_toArray, List.getElem?_cons_zero, List.getElem?_cons_succ]; rfl
        go_simp
        refine hK.out _ _ (fun _ => ?_) (fun _ => ?_)
        · exact ksa
        clear hK K
        try simp only [Act.put, List.setIfInBounds_toArray, List.set_cons_zero, List.set_cons_succ]
        refine wpAnyZ_ready (rs := [20]) (by kernel_rfl) (by simp) ?_
        refine AllReadyZ.cons1 ⟨?_, ?_, fun K hK => ?_⟩ ?_
        rotate_left
        · simp only [List.getElem?_toArray, List.getElem?_cons_zero, List.getElem?_cons_succ]; rfl
        go_simp
        refine hK.out _ _ (fun _ => ?_) (fun _ => ?_)
        · exact ksa
        clear hK K
        try simp only [Act.put, List.setIfInBounds_toArray, List.set_cons_zero, List.set_cons_succ]
        refine wpAnyZ_ready (rs := [21]) (by kernel_rfl) (by simp) ?_
        refine AllReadyZ.cons1 ⟨?_, ?_, fun K hK => ?_⟩ ?_
        rotate_left
        · simp only [List.getElem?_toArray, List.getElem?_cons_zero, List.getElem?_cons_succ]; rfl
        go_simp
        refine hK.out _ _ (fun h => absurd rfl h) (fun _ => ?_)
        clear hK K
        try simp only [Act.put, List.setIfInBounds_toArray, List.set_cons_zero, List.set_cons_succ]
        refine wpAnyZ_done (by kernel_rfl) ?_ _
        · go_wp2
          all_goals
            go_ret
            exact ⟨rfl, new_list (X := X) (c := c) (own_mono ho3.out hWz) hlen.out hcs.out (by omega) (hWB.out.trans (hb3.out.mono hWz)) hhd.out⟩
        repeat exact AllReadyZ.nil
        refine AllReadyZ.cons1 ⟨?_, ?_, fun K hK => ?_⟩ ?_
        rotate_left
        · simp only [List.getElem?_toArray, List.getElem?_cons_zero, List.getElem?_cons_succ]; rfl
        go_simp
        refine hK.out _ _ (fun _ => ?_) (fun _ => ?_)
        · exact (KS.out _ (below_alloc (below_alloc (Below.refl _ _) _) _)).1
        clear hK K
        try simp only [Act.put, List.setIfInBounds_toArray, List.set_cons_zero, List.set_cons_succ]
        refine wpAnyZ_ready (rs := [8]) (by kernel_rfl) (by simp) ?_
        refine AllReadyZ.cons1 ⟨?_, ?_, fun K hK => ?_⟩ ?_
        rotate_left
        · simp only [List.getElem?_toArray, List.getElem?_cons_zero, List.getElem?_cons_succ]; rfl
        refine step_append_any _ rfl (.tmp 63) (.tmp 69) 45 rfl W.heap.size 76 i0 _ 4 32 Try.underlying45 hi'.out hz0 hz1 hz2 rfl (by decide) (.slice (some ⟨W.heap.size, 0, none⟩) 0 0) 0 [] rfl (World.ownsRow.alloc (own_empty W _ _ _ (Nat.le_refl _)) (.cells #[.int .i64 id, .int .i64 p, .int .u64 b, .int .u64 n] 76)) W.heap.size _ P.length c ((brcs X).take (P.length * 4)) rfl ((R1W.out.alloc (Nat.le_refl _) (.cells #[] 76)).alloc (by simp) (.cells #[.int .i64 id, .int .i64 p, .int .u64 b, .int .u64 n] 76)) o1.out hx1.out.1 hx1.out.2.1 (by simp; omega) ?_
        intro v1 w1 ho1 hg1 ha1
        have hb1 : Below W.heap.size W w1 := below_via (below_alloc (below_alloc (Below.refl _ W) (.cells #[] 76)) (.cells #[.int .i64 id, .int .i64 p, .int .u64 b, .int .u64 n] 76)) hg1 rfl rfl rfl rfl (by simp; omega) (own_base (own_empty W _ 76 4 (Nat.le_refl _)))
        have ks1 := KS.out _ hb1
        replace hb1 := Lib.hid hb1
        replace ho1 := Lib.hid ho1
        replace hg1 := Lib.hid hg1
        clear ha1
        have hq1 : w1.heap[W.heap.size + 1]? = some (.cells #[.int .i64 id, .int .i64 p, .int .u64 b, .int .u64 n] 76) := (hg1.out.block (W.heap.size + 1) (by simp) (by simp [Value.ownBlock])).trans (by have := heap_alloc_new (W.alloc (.cells #[] 76)) (.cells #[.int .i64 id, .int .i64 p, .int .u64 b, .int .u64 n] 76); rwa [World.size_alloc] at this)
        refine hK.out _ _ (fun _ => ?_) (fun _ => ?_)
        · exact ks1.1
        clear hK K
        try simp only [Act.put, List.setIfInBounds_toArray, List.set_cons_zero, List.set_cons_succ]
        refine wpAnyZ_ready (rs := [11]) (by kernel_rfl) (by simp) ?_
        refine AllReadyZ.cons1 ⟨?_, ?_, fun K hK => ?_⟩ ?_
        rotate_left
        · simp only [List.getElem?_toArray, List.getElem?_cons_zero, List.getElem?_cons_succ]; rfl
        refine step_append_any _ rfl (.tmp 70) (.tmp 72) 45 rfl W.heap.size 76 i0 _ 4 32 Try.underlying45 hi'.out hz0 hz1 hz2 rfl (by decide) v1 (0 + P.length) ([] ++ (brcs X).take (P.length * 4)) rfl ho1.out _ _ 1 1 [.int .i64 id, .int .i64 p, .int .u64 b, .int .u64 n] rfl (reads_blk hq1 rfl) (by simp [Value.oneCell']) hx1.out.2.2.1 hx1.out.2.2.2.1 hb1.out.size ?_
        intro v2 w2 ho2 hg2 ha2
        have hb2 : Below W.heap.size W w2 := below_via hb1.out hg2 rfl rfl rfl rfl hb1.out.size (own_base ho1.out)
        have ks2 := KS.out _ hb2
        replace hb2 := Lib.hid hb2
        replace ho2 := Lib.hid ho2
        replace hg2 := Lib.hid hg2
        clear ha2
        refine hK.out _ _ (fun _ => ?_) (fun _ => ?_)
        · exact ks2.1
        clear hK K
        try simp only [Act.put, List.setIfInBounds_toArray, List.set_cons_zero, List.set_cons_succ]
        refine wpAnyZ_ready (rs := [18]) (by kernel_rfl) (by simp) ?_
        refine AllReadyZ.cons1 ⟨?_, ?_, fun K hK => ?_⟩ ?_
        rotate_left
        · simp only [List.getElem?_toArray, List.getElem?_cons_zero, List.getElem?_cons_succ]; rfl
        refine step_append_any _ rfl (.tmp 73) (.tmp 79) 45 rfl W.heap.size 76 i0 _ 4 32 Try.underlying45 hi'.out hz0 hz1 hz2 rfl (by decide) v2 (0 + P.length + 1) ([] ++ (brcs X).take (P.length * 4) ++ [.int .i64 id, .int .i64 p, .int .u64 b, .int .u64 n]) rfl ho2.out W.heap.size _ (X.length - P.length) (c - P.length) ((brcs X).drop (P.length * 4)) rfl (by first | exact R2W.out.below hb2.out | exact R3W.out.below hb2.out) o2.out hx1.out.2.2.2.2.1 hx1.out.2.2.2.2.2 hb2.out.size ?_
        intro v3 w3 ho3 hg3 ha3
        have hb3 : Below W.heap.size W w3 := below_via hb2.out hg3 rfl rfl rfl rfl hb2.out.size (own_base ho2.out)
        have ks3 := KS.out _ hb3
        replace hb3 := Lib.hid hb3
        replace ho3 := Lib.hid ho3
        replace hg3 := Lib.hid hg3
        clear ha3
        obtain ⟨A3, c3, rfl⟩ := own_slice ho3.out
        obtain ⟨ksa, ksb⟩ := ks3
        have ksc := ksa.1
        refine hK.out _ _ (fun _ => ?_) (fun _ => ?_)
        · exact ksa
        clear hK K
        try simp only [Act.put, List.setIfInBounds_toArray, List.set_cons_zero, List.set_cons_succ]
        refine wpAnyZ_ready (rs := [19]) (by kernel_rfl) (by simp) ?_
        refine AllReadyZ.cons1 ⟨?_, ?_, fun K hK => ?_⟩ ?_
        rotate_left
        · simp only [List.getElem?_toArray, List.getElem?_cons_zero, List.getElem?_cons_succ]; rfl
        go_simp
        refine hK.out _ _ (fun _ => ?_) (fun _ => ?_)
        · exact ksa
        clear hK K
        try simp only [Act.put, List.setIfInBounds_toArray, List.set_cons_zero, List.set_cons_succ]
        refine wpAnyZ_ready (rs := [20]) (by kernel_rfl) (by simp) ?_
        refine AllReadyZ.cons1 ⟨?_, ?_, fun K hK => ?_⟩ ?_
        rotate_left
        · simp only [List.getElem?_toArray, List.getElem?_cons_zero, List.getElem?_cons_succ]; rfl
        go_simp
        refine hK.out _ _ (fun _ => ?_) (fun _ => ?_)
        · exact ksa
        clear hK K
        try simp only [Act.put, List.setIfInBounds_toArray, List.set_cons_zero, List.set_cons_succ]
        refine wpAnyZ_ready (rs := [21]) (by kernel_rfl) (by simp) ?_
        refine AllReadyZ.cons1 ⟨?_, ?_, fun K hK => ?_⟩ ?_
        rotate_left
        · simp only [List.getElem?_toArray, List.getElem?_cons_zero, List.getElem?_cons_succ]; rfl
        go_simp
        refine hK.out _ _ (fun h => absurd rfl h) (fun _ => ?_)
        clear hK K
        try simp only [Act.put, List.setIfInBounds_toArray, List.set_cons_zero, List.set_cons_succ]
        refine wpAnyZ_done (by kernel_rfl) ?_ _
        · go_wp2
          all_goals
            go_ret
            exact ⟨rfl, new_list (X := X) (c := c) (own_mono ho3.out hWz) hlen.out hcs.out (by omega) (hWB.out.trans (hb3.out.mono hWz)) hhd.out⟩
        repeat exact AllReadyZ.nil
        refine AllReadyZ.cons1 ⟨?_, ?_, fun K hK => ?_⟩ ?_
        rotate_left
        · simp only [List.getElem?_toArray, List.getElem?_cons_zero, List.getElem?_cons_succ]; rfl
        go_simp
        refine hK.out _ _ (fun _ => ?_) (fun _ => ?_)
        · exact (KS.out _ (below_alloc (Below.refl _ _) _)).1
        clear hK K
        try simp only [Act.put, List.setIfInBounds_toArray, List.set_cons_zero, List.set_cons_succ]
        refine wpAnyZ_ready (rs := [1]) (by kernel_rfl) (by simp) ?_
        refine AllReadyZ.cons1 ⟨?_, ?_, fun K hK => ?_⟩ ?_
        rotate_left
        · simp only [List.getElem?_toArray, List.getElem?_cons_zero, List.getElem?_cons_succ]; rfl
        go_simp
        refine hK.out _ _ (fun _ => ?_) (fun _ => ?_)
        · exact (KS.out _ (below_alloc (below_alloc (Below.refl _ _) _) _)).1
        clear hK K
        try simp only [Act.put, List.setIfInBounds_toArray, List.set_cons_zero, List.set_cons_succ]
        refine wpAnyZ_ready (rs := [8]) (by kernel_rfl) (by simp) ?_
        refine AllReadyZ.cons1 ⟨?_, ?_, fun K hK => ?_⟩ ?_
        rotate_left
        · simp only [List.getElem?_toArray, List.getElem?_cons_zero, List.getElem?_cons_succ]; rfl
        refine step_append_any _ rfl (.tmp 63) (.tmp 69) 45 rfl W.heap.size 76 i0 _ 4 32 Try.underlying45 hi'.out hz0 hz1 hz2 rfl (by decide) (.slice (some ⟨W.heap.size + 1, 0, none⟩) 0 0) 0 [] rfl (own_e (W.alloc (.cells #[.int .i64 id, .int .i64 p, .int .u64 b, .int .u64 n] 76)) W.heap.size (W.heap.size + 1) 76 4 (by simp) (by simp)) W.heap.size _ P.length c ((brcs X).take (P.length * 4)) rfl ((R1W.out.alloc (Nat.le_refl _) (.cells #[.int .i64 id, .int .i64 p, .int .u64 b, .int .u64 n] 76)).alloc (by simp) (.cells #[] 76)) o1.out hx1.out.1 hx1.out.2.1 (by simp; omega) ?_
        intro v1 w1 ho1 hg1 ha1
        have hb1 : Below W.heap.size W w1 := below_via (below_alloc (below_alloc (Below.refl _ W) (.cells #[.int .i64 id, .int .i64 p, .int .u64 b, .int .u64 n] 76)) (.cells #[] 76)) hg1 rfl rfl rfl rfl (by simp; omega) (own_base (own_e (W.alloc (.cells #[.int .i64 id, .int .i64 p, .int .u64 b, .int .u64 n] 76)) W.heap.size (W.heap.size + 1) 76 4 (by simp) (by simp)))
        have ks1 := KS.out _ hb1
        replace hb1 := Lib.hid hb1
        replace ho1 := Lib.hid ho1
        replace hg1 := Lib.hid hg1
        clear ha1
        have hq1 : w1.heap[W.heap.size]? = some (.cells #[.int .i64 id, .int .i64 p, .int .u64 b, .int .u64 n] 76) := (hg1.out.block W.heap.size (by simp; omega) (by simp [Value.ownBlock])).trans (blk_alloc (heap_alloc_new W (.cells #[.int .i64 id, .int .i64 p, .int .u64 b, .int .u64 n] 76)) (.cells #[] 76))
        refine hK.out _ _ (fun _ => ?_) (fun _ => ?_)
        · exact ks1.1
        clear hK K
        try simp only [Act.put, List.setIfInBounds_toArray, List.set_cons_zero, List.set_cons_succ]
        refine wpAnyZ_ready (rs := [11]) (by kernel_rfl) (by simp) ?_
        refine AllReadyZ.cons1 ⟨?_, ?_, fun K hK => ?_⟩ ?_
        rotate_left
        · simp only [List.getElem?_toArray, List.getElem?_cons_zero, List.getElem?_cons_succ]; rfl
        refine step_append_any _ rfl (.tmp 70) (.tmp 72) 45 rfl W.heap.size 76 i0 _ 4 32 Try.underlying45 hi'.out hz0 hz1 hz2 rfl (by decide) v1 (0 + P.length) ([] ++ (brcs X).take (P.length * 4)) rfl ho1.out _ _ 1 1 [.int .i64 id, .int .i64 p, .int .u64 b, .int .u64 n] rfl (reads_blk hq1 rfl) (by simp [Value.oneCell']) hx1.out.2.2.1 hx1.out.2.2.2.1 hb1.out.size ?_
        intro v2 w2 ho2 hg2 ha2
        have hb2 : Below W.heap.size W w2 := below_via hb1.out hg2 rfl rfl rfl rfl hb1.out.size (own_base ho1.out)
        have ks2 := KS.out _ hb2
        replace hb2 := Lib.hid hb2
        replace ho2 := Lib.hid ho2
        replace hg2 := Lib.hid hg2
        clear ha2
        refine hK.out _ _ (fun _ => ?_) (fun _ => ?_)
        · exact ks2.1
        clear hK K
        try simp only [Act.put, List.setIfInBounds_toArray, List.set_cons_zero, List.set_cons_succ]
        refine wpAnyZ_ready (rs := [18]) (by kernel_rfl) (by simp) ?_
        refine AllReadyZ.cons1 ⟨?_, ?_, fun K hK => ?_⟩ ?_
        rotate_left
        · simp only [List.getElem?_toArray, List.getElem?_cons_zero, List.getElem?_cons_succ]; rfl
        refine step_append_any _ rfl (.tmp 73) (.tmp 79) 45 rfl W.heap.size 76 i0 _ 4 32 Try.underlying45 hi'.out hz0 hz1 hz2 rfl (by decide) v2 (0 + P.length + 1) ([] ++ (brcs X).take (P.length * 4) ++ [.int .i64 id, .int .i64 p, .int .u64 b, .int .u64 n]) rfl ho2.out W.heap.size _ (X.length - P.length) (c - P.length) ((brcs X).drop (P.length * 4)) rfl (by first | exact R2W.out.below hb2.out | exact R3W.out.below hb2.out) o2.out hx1.out.2.2.2.2.1 hx1.out.2.2.2.2.2 hb2.out.size ?_
        intro v3 w3 ho3 hg3 ha3
        have hb3 : Below W.heap.size W w3 := below_via hb2.out hg3 rfl rfl rfl rfl hb2.out.size (own_base ho2.out)
        have ks3 := KS.out _ hb3
        replace hb3 := Lib.hid hb3
        replace ho3 := Lib.hid ho3
        replace hg3 := Lib.hid hg3
        clear ha3
        obtain ⟨A3, c3, rfl⟩ := own_slice ho3.out
        obtain ⟨ksa, ksb⟩ := ks3
        have ksc := ksa.1
        refine hK.out _ _ (fun _ => ?_) (fun _ => ?_)
        · exact ksa
        clear hK K
        try simp only [Act.put, List.setIfInBounds_toArray, List.set_cons_zero, List.set_cons_succ]
        refine wpAnyZ_ready (rs := [19]) (by kernel_rfl) (by simp) ?_
        refine AllReadyZ.cons1 ⟨?_, ?_, fun K hK => ?_⟩ ?_
        rotate_left
        · simp only [List.getElem?_toArray, List.getElem?_cons_zero, List.getElem?_cons_succ]; rfl
        go_simp
        refine hK.out _ _ (fun _ => ?_) (fun _ => ?_)
        · exact ksa
        clear hK K
        try simp only [Act.put, List.setIfInBounds_toArray, List.set_cons_zero, List.set_cons_succ]
        refine wpAnyZ_ready (rs := [20]) (by kernel_rfl) (by simp) ?_
        refine AllReadyZ.cons1 ⟨?_, ?_, fun K hK => ?_⟩ ?_
        rotate_left
        · simp only [List.getElem?_toArray, List.getElem?_cons_zero, List.getElem?_cons_succ]; rfl
        go_simp
        refine hK.out _ _ (fun _ => ?_) (fun _ => ?_)
        · exact ksa
        clear hK K
        try simp only [Act.put, List.setIfInBounds_toArray, List.set_cons_zero, List.set_cons_succ]
        refine wpAnyZ_ready (rs := [21]) (by kernel_rfl) (by simp) ?_
        refine AllReadyZ.cons1 ⟨?_, ?_, fun K hK => ?_⟩ ?_
        rotate_left
        · simp only [List.getElem?_toArray, List.getElem?_cons_zero, List.getElem?_cons_succ]; rfl
        go_simp
        refine hK.out _ _ (fun h => absurd rfl h) (fun _ => ?_)
        clear hK K
        try simp only [Act.put, List.setIfInBounds_toArray, List.set_cons_zero, List.set_cons_succ]
        refine wpAnyZ_done (by kernel_rfl) ?_ _
        · go_wp2
          all_goals
            go_ret
            exact ⟨rfl, new_list (X := X) (c := c) (own_mono ho3.out hWz) hlen.out hcs.out (by omega) (hWB.out.trans (hb3.out.mono hWz)) hhd.out⟩
        repeat exact AllReadyZ.nil
end Go.Proofs.Ytaolpniigjmccaa.All
