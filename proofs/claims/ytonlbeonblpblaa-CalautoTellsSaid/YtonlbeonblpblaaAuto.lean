/-
  A calendar compiled: its keepers in a row, each with a box for its rule; the least of the Nevers. No condition but that the rules lie as their row says.
-/
import Derived.Test.YtonlbeonblpblaaRules
import Derived.Laws.EntriesVeiled
namespace Go.Proofs.Ytonlbeonblpblaa.All
open Go.RowKit Go.Proofs.YtonlbeonblpblaaW.PrintWords Go.Proofs.YtonlbeonblpblaaW.PrintLast Go.Proofs.YtonlbeonblpblaaW.PrintMore Go.Proofs.Ytonlbeonblpblaa.Wd
set_option linter.unusedVariables false
set_option linter.unusedSimpArgs false
private theorem ym (motive : Option Value → Sort _) (h1 : (b : Bool) → motive (some (.bool b))) (h2 : (x : Option Value) → motive x) : Go.yielded.match_1 motive (some undef) h1 h2 = h2 (some undef) := rfl
attribute [local go_sem, local simp] ym
/-- A rule's function, its box at a block. -/
def kfun (r : Ru) (bx : Nat) : Value := if r.k = 1 then .func (.func 30) #[] #[] else if r.k = 2 then .func (.func 31) #[] #[.pointer (some ⟨bx, 0, none⟩)] else .func (.func 33) #[] #[.pointer (some ⟨bx, 0, none⟩)]
def kvs (ks : List (Ru × Nat)) : List Value := ks.flatMap fun p => [kfun p.1 p.2, .int .i64 p.1.f]
theorem kvs_len (ks : List (Ru × Nat)) : (kvs ks).length = ks.length * 2 := by
  induction ks with
  | nil => rfl
  | cons p ks ih =>
    show (kfun p.1 p.2 :: Value.int .i64 p.1.f :: kvs ks).length = _
    rw [List.length_cons, List.length_cons, ih, List.length_cons]
    omega
theorem kvs_snoc (ks : List (Ru × Nat)) (r : Ru) (b : Nat) : kvs (ks ++ [(r, b)]) = kvs ks ++ [kfun r b, .int .i64 r.f] := by simp [kvs, List.flatMap_append]
/-- The boxes of the rules. -/
def Bx (w : World) (ks : List (Ru × Nat)) : Prop := ∀ p ∈ ks, w.heap[p.2]? = some (.cells #[.int .i64 p.1.k, .int .i64 p.1.l, .int .i64 p.1.f] 24)
theorem Bx.below {w w2 : World} {ks : List (Ru × Nat)} (h : Bx w ks) (hb : Below w.heap.size w w2) : Bx w2 ks := fun p hp => (hb.block _ (lt_heap (h p hp))).trans (h p hp)
theorem Bx.chg {S : Nat → Prop} {w w2 : World} {ks : List (Ru × Nat)} (h : Bx w ks) (hc : Chg S w w2) (hs : ∀ k cur, w.heap[k]? = some (.cells cur 24) → ¬ S k) : Bx w2 ks := fun p hp => hc.old (h p hp) (hs _ _ (h p hp))
def neverStep (a : Int × Bool) (r : Ru) : Int × Bool := if r.k = 4 then (if a.2 = false ∨ r.f < a.1 then (r.f, true) else a) else a
def neverF (L : List Ru) : Int × Bool := L.foldl neverStep (0, false)
def ksOf (L : List Ru) : List Ru := L.filter fun r => decide (r.k ≠ 4)
theorem never_take {L : List Ru} {i : Nat} (h : i < L.length) : neverF (L.take (i + 1)) = neverStep (neverF (L.take i)) L[i] := by
  unfold neverF
  rw [List.take_succ_eq_append_getElem h, List.foldl_append]
  rfl
theorem ks_take {L : List Ru} {i : Nat} (h : i < L.length) : ksOf (L.take (i + 1)) = ksOf (L.take i) ++ if L[i].k = 4 then [] else [L[i]] := by
  unfold ksOf
  rw [List.take_succ_eq_append_getElem h, List.filter_append]
  by_cases e : L[i].k = 4 <;> simp [e]
/-- A compiled calendar's rules, where they lie. -/
structure KAt (w : World) (base : Nat) (A : Option Addr) (c : Nat) (ks : List (Ru × Nat)) : Prop where
  own : w.ownsRow base 75 2 (.slice A ks.length c) ks.length (kvs ks)
  bx : Bx w ks
theorem KAt.below {w w2 : World} {base : Nat} {A : Option Addr} {c : Nat} {ks : List (Ru × Nat)} (h : KAt w base A c ks) (hb : Below w.heap.size w w2) : KAt w2 base A c ks := ⟨own_below h.own hb, h.bx.below hb⟩
theorem KAt.chg {S : Nat → Prop} {w w2 : World} {base : Nat} {A : Option Addr} {c : Nat} {ks : List (Ru × Nat)} (h : KAt w base A c ks) (hc : Chg S w w2) (h1 : ∀ k cur, w.heap[k]? = some (.cells cur 75) → ¬ S k) (h2 : ∀ k cur, w.heap[k]? = some (.cells cur 24) → ¬ S k) : KAt w2 base A c ks := ⟨own_chg h.own hc h1, h.bx.chg hc h2⟩
theorem keeper_info : (Try.prog.info? 75).map (fun i => (i.zero, i.size, i.bytes)) = some (some (.agg #[.nilFunc, .int .i64 0]), 2, 16) := by kernel_rfl
/-- What a round of Compile keeps. -/
structure CI (w wr : World) (aB rB : Nat) (L : List Ru) (A : Option Addr) (c : Nat) (ks : List (Ru × Nat)) (N : Int × Bool) : Prop where
  k : KAt wr w.heap.size A c ks
  a : wr.heap[aB]? = some (.cells #[.slice A ks.length c, .int .i64 N.1, .bool N.2] 32)
  r : wr.heap[rB]? = some (.cells #[.slice none 0 0, .int .i64 0, .bool false] 32)
  ru : ks.map (·.1) = ksOf L
  nv : neverF L = N
  bel : Below w.heap.size w wr
  la : w.heap.size ≤ aB
  ne : rB ≠ aB
theorem CI.below {w wr w2 : World} {aB rB : Nat} {L : List Ru} {A : Option Addr} {c : Nat} {ks : List (Ru × Nat)} {N : Int × Bool} (h : CI w wr aB rB L A c ks N) (hb : Below wr.heap.size wr w2) : CI w w2 aB rB L A c ks N :=
  ⟨h.k.below hb, (hb.block _ (lt_heap h.a)).trans h.a, (hb.block _ (lt_heap h.r)).trans h.r, h.ru, h.nv, h.bel.trans (hb.mono h.bel.size), h.la, h.ne⟩
/-- The rule that is looked at, in its box. -/
def Bo (w : World) (b : Nat) (r : Ru) : Prop := w.heap[b]? = some (.cells #[.int .i64 r.k, .int .i64 r.l, .int .i64 r.f] 24)
theorem Bo.cells {w : World} {b : Nat} {r : Ru} (h : Bo w b r) : w.cell? { block := b, off := 0 } = some (.int .i64 r.k) ∧ w.cell? { block := b, off := 1 } = some (.int .i64 r.l) ∧ w.cell? { block := b, off := 2 } = some (.int .i64 r.f) := ⟨cell_of_row w b 0 _ _ (0, 0) h, cell_of_row w b 1 _ _ (0, 0) h, cell_of_row w b 2 _ _ (0, 0) h⟩
theorem CI.cells {w wr : World} {aB rB : Nat} {L : List Ru} {A : Option Addr} {c : Nat} {ks : List (Ru × Nat)} {N : Int × Bool} (h : CI w wr aB rB L A c ks N) : wr.cell? { block := aB, off := 0 } = some (.slice A ks.length c) ∧ wr.cell? { block := aB, off := 1 } = some (.int .i64 N.1) ∧ wr.cell? { block := aB, off := 2 } = some (.bool N.2) ∧ wr.frozen? { block := aB, off := 0 } = false ∧ wr.frozen? { block := aB, off := 1 } = false ∧ wr.frozen? { block := aB, off := 2 } = false :=
  ⟨cell_of_row wr aB 0 _ _ (0, 0) h.a, cell_of_row wr aB 1 _ _ (0, 0) h.a, cell_of_row wr aB 2 _ _ (0, 0) h.a, frozen_of_row wr aB 0 _ _ h.a, frozen_of_row wr aB 1 _ _ h.a, frozen_of_row wr aB 2 _ _ h.a⟩
theorem reads2 {w : World} {q : Nat} {t : TypeId} {a b : Value} (h : w.heap[q]? = some (.cells #[a, b] t)) : Reads w (q + 1) 2 (some ⟨q, 0, none⟩) 1 [a, b] := by
  refine ⟨rfl, fun _ => ⟨_, rfl, Nat.lt_succ_self _, fun j v hv => ?_⟩⟩
  have e1 : Addr.add ⟨q, 0, none⟩ j = ⟨q, j, none⟩ := by
    unfold Addr.add
    split
    · subst_vars; rfl
    · simp
  rw [e1, cell_of_row _ _ j _ _ (0, 0) h]
  simpa using hv
theorem comp_end {w w3 W5 w6 : World} {aB rB bx c c1 : Nat} {L L' : List Ru} {A A1 : Option Addr} {ks : List (Ru × Nat)} {N : Int × Bool} {r : Ru} (h : CI w w3 aB rB L A c ks N) (hB : Bo w3 bx r) (hb5 : Below w3.heap.size w3 W5)
    (ho : w6.ownsRow w.heap.size 75 2 (.slice A1 (ks.length + 1) c1) (ks.length + 1) (kvs ks ++ [kfun r bx, .int .i64 r.f])) (hg : W5.grownBy w6 (Value.slice A ks.length c).ownBlock) (hL : ksOf L' = ksOf L ++ [r]) (hN : neverF L' = N) :
    (∃ A c ks' N, CI w (w6.setCell { block := aB, off := 0 } (.slice A1 (ks.length + 1) c1)) aB rB L' A c ks' N) ∧ w6.cell? { block := aB, off := 0 } = some (.slice A ks.length c) ∧ w6.frozen? { block := aB, off := 0 } = false := by
  have hown := own_below h.k.own hb5
  have G : ∀ k o, w3.heap[k]? = some o → (∀ cur, o ≠ Obj.cells cur 75) → w6.heap[k]? = some o := fun k o hk hn => by
    have h5 : W5.heap[k]? = some o := (hb5.block k (lt_heap hk)).trans hk
    refine (hg.block k (lt_heap h5) (fun e => ?_)).trans h5
    obtain ⟨cur, hc⟩ := own_size hown _ e.symm
    rw [h5] at hc
    injection hc with hc
    exact hn cur hc
  have ha := G aB _ h.a (fun cur => by simp)
  have hS : ∀ k o, w6.heap[k]? = some o → k ≠ aB → (w6.setCell { block := aB, off := 0 } (.slice A1 (ks.length + 1) c1)).heap[k]? = some o := fun k o hk hn => (Below.heap_setCell _ _ _ _ hn).trans hk
  have hC : Chg (· = aB) w6 (w6.setCell { block := aB, off := 0 } (.slice A1 (ks.length + 1) c1)) := Chg.setCell (S := (· = aB)) (Chg.refl _ _) (p := { block := aB, off := 0 }) rfl _
  have hlen : (ks ++ [(r, bx)]).length = ks.length + 1 := by simp
  refine ⟨⟨A1, c1, ks ++ [(r, bx)], N, ⟨?_, fun p hp => ?_⟩, ?_, ?_, ?_, hN, ?_, h.la, h.ne⟩, cell_of_row w6 aB 0 _ _ (0, 0) ha, frozen_of_row w6 aB 0 _ _ ha⟩
  · rw [hlen, kvs_snoc]
    exact own_chg ho hC (fun k cur hk e => by subst e; exact heap_ne ha hk (by simp) rfl)
  · rcases List.mem_append.1 hp with hp | hp
    · have h1 := G _ _ (h.k.bx p hp) (fun cur => by simp)
      exact hS _ _ h1 (heap_ne h1 ha (by simp))
    · obtain rfl : p = (r, bx) := by simpa using hp
      have h1 := G _ _ hB (fun cur => by simp)
      exact hS _ _ h1 (heap_ne h1 ha (by simp))
  · rw [hlen]
    simp [World.setCell, Array.getElem?_modify, ha]
  · exact hS _ _ (G _ _ h.r (fun cur => by simp)) h.ne
  · rw [List.map_append, h.ru, hL]
    rfl
  · have hw3 : w.heap.size ≤ w3.heap.size := h.bel.size
    have h5 : Below w.heap.size w W5 := h.bel.trans (hb5.mono hw3)
    have h6 : Below w.heap.size w w6 := h5.grown hg h5.size (fun k e => own_base hown k e)
    exact h6.setCell (p := { block := aB, off := 0 }) h.la _
theorem comp_ret {w wr : World} {aB rB : Nat} {L : List Ru} {A : Option Addr} {c : Nat} {ks : List (Ru × Nat)} {N : Int × Bool} (h : CI w wr aB rB L A c ks N) (hr : w.heap.size ≤ rB) :
    (((wr.setCell { block := rB, off := 0 } (.slice A ks.length c)).setCell { block := rB, off := 1 } (.int .i64 N.1)).setCell { block := rB, off := 2 } (.bool N.2)).heap[rB]? = some (.cells #[.slice A ks.length c, .int .i64 N.1, .bool N.2] 32) ∧
    KAt (((wr.setCell { block := rB, off := 0 } (.slice A ks.length c)).setCell { block := rB, off := 1 } (.int .i64 N.1)).setCell { block := rB, off := 2 } (.bool N.2)) w.heap.size A c ks ∧
    Below w.heap.size w (((wr.setCell { block := rB, off := 0 } (.slice A ks.length c)).setCell { block := rB, off := 1 } (.int .i64 N.1)).setCell { block := rB, off := 2 } (.bool N.2)) := by
  have hC : Chg (· = rB) wr (((wr.setCell { block := rB, off := 0 } (.slice A ks.length c)).setCell { block := rB, off := 1 } (.int .i64 N.1)).setCell { block := rB, off := 2 } (.bool N.2)) := Chg.setCell (S := (· = rB)) (Chg.setCell (S := (· = rB)) (Chg.setCell (S := (· = rB)) (Chg.refl _ _) (p := { block := rB, off := 0 }) rfl _) (p := { block := rB, off := 1 }) rfl _) (p := { block := rB, off := 2 }) rfl _
  refine ⟨?_, h.k.chg hC (fun k cur hk e => by subst e; exact heap_ne h.r hk (by simp) rfl) (fun k cur hk e => by subst e; exact heap_ne h.r hk (by simp) rfl), hC.below h.bel h.bel.size (fun k e => e ▸ hr)⟩
  simp [World.setCell, Array.getElem?_modify]
  simp [h.r]
/-- The least of the Nevers is turned. -/
theorem CI.never {w wr : World} {aB rB : Nat} {L L' : List Ru} {A : Option Addr} {c : Nat} {ks : List (Ru × Nat)} {N : Int × Bool} (h : CI w wr aB rB L A c ks N) (f : Int) (hL : ksOf L' = ksOf L) (hN : neverF L' = (f, true)) :
    CI w ((wr.setCell { block := aB, off := 1 } (.int .i64 f)).setCell { block := aB, off := 2 } (.bool true)) aB rB L' A c ks (f, true) := by
  have hC : Chg (· = aB) wr ((wr.setCell { block := aB, off := 1 } (.int .i64 f)).setCell { block := aB, off := 2 } (.bool true)) := Chg.setCell (S := (· = aB)) (Chg.setCell (S := (· = aB)) (Chg.refl _ _) (p := { block := aB, off := 1 }) rfl _) (p := { block := aB, off := 2 }) rfl _
  refine ⟨h.k.chg hC (fun k cur hk e => by subst e; exact heap_ne h.a hk (by simp) rfl) (fun k cur hk e => by subst e; exact heap_ne h.a hk (by simp) rfl), ?_, hC.old h.r h.ne, by rw [hL]; exact h.ru, hN, hC.below h.bel h.bel.size (fun k e => e ▸ h.la), h.la, h.ne⟩
  have h1 : (wr.setCell { block := aB, off := 1 } (.int .i64 f)).heap[aB]? = some (.cells #[.slice A ks.length c, .int .i64 f, .bool N.2] 32) := by simp [World.setCell, Array.getElem?_modify, h.a]
  simp [World.setCell, Array.getElem?_modify] at h1 ⊢
  simp [h.a]
theorem CI.same {w wr : World} {aB rB : Nat} {L L' : List Ru} {A : Option Addr} {c : Nat} {ks : List (Ru × Nat)} {N : Int × Bool} (h : CI w wr aB rB L A c ks N) (hL : ksOf L' = ksOf L) (hN : neverF L' = N) : CI w wr aB rB L' A c ks N :=
  ⟨h.k, h.a, h.r, by rw [hL]; exact h.ru, hN, h.bel, h.la, h.ne⟩
def CompPost (L : List Ru) (w : World) (e : Ending) (w' : World) : Prop := ∃ A c ks, e = .returned (.tuple #[.agg #[.slice A ks.length c, .int .i64 (neverF L).1, .bool (neverF L).2], .int .i64 0]) ∧ KAt w' w.heap.size A c ks ∧ ks.map (·.1) = ksOf L ∧ Below w.heap.size w w'
set_option maxRecDepth 100000 in
set_option maxHeartbeats 4000000 in
theorem compile_ok {L : List Ru} {A0 : Option Addr} {c0 : Nat} {w : World} (hR : RuRow w w.heap.size A0 L) (hl : L.length ≤ 16) (hr : ∀ r ∈ L, rightB r = true) :
    Calls Try.prog 14 #[.slice A0 L.length c0] w (CompPost L w) := by
  obtain ⟨i0, hi, hz0, hz1, hz2⟩ := info_parts keeper_info
  have hi' := Lib.hid hi
  clear hi
  have RC := Lib.hid (fun (r : Ru) (w : World) => right_calls r w)
  replace hR := Lib.hid hR
  replace hr := Lib.hid hr
  have hdl : decide ((16 : Int) < (L.length : Int)) = false := decide_eq_false (by omega)
  have hdn : decide (16 < L.length) = false := decide_eq_false (by omega)
  go_enter Try.func14, Try.ntmps14
  go_wp2
  have HI : Hid (CI w ((w.alloc (.cells #[.slice none 0 0, .int .i64 0, .bool false] 32)).alloc (.cells #[.slice none 0 0, .int .i64 0, .bool false] 32)) (w.heap.size + 1) w.heap.size (L.take 0) none 0 [] (0, false)) := by
    have h1 := heap_alloc_new (w.alloc (.cells #[.slice none 0 0, .int .i64 0, .bool false] 32)) (.cells #[.slice none 0 0, .int .i64 0, .bool false] 32)
    rw [World.size_alloc] at h1
    exact Lib.hid ⟨⟨⟨rfl, .inl ⟨rfl, rfl⟩⟩, fun p hp => by cases hp⟩, h1, blk_alloc (heap_alloc_new w _) _, rfl, rfl, below_alloc (below_alloc (Below.refl _ _) _) _, Nat.le_succ _, Nat.ne_of_lt (Nat.lt_succ_self _)⟩
  go_loopw [14] (fun v14 wr => ∃ i : Nat, v14 = .int .i64 i ∧ i ≤ L.length ∧ Hid (∃ A c ks N, CI w wr (w.heap.size + 1) w.heap.size (L.take i) A c ks N)) (fun v14 _ => L.length - (intOf v14).toNat)
  case atStart => exact ⟨0, rfl, Nat.zero_le _, Lib.hid ⟨_, _, _, _, HI.out⟩⟩
  case round =>
    clear HI
    obtain ⟨i, rfl, hk, HI⟩ := hrel
    obtain ⟨A, c, ks, N, HI⟩ := HI.out
    replace HI := Lib.hid HI
    by_cases hlt : i < L.length
    · obtain ⟨ad, rfl, hadb, hra⟩ := (hR.out.below HI.out.bel) (by omega)
      obtain ⟨c0, c1, c2⟩ := hra i hlt
      clear hra
      have hrr := hr.out _ (List.getElem_mem hlt)
      have HN := Lib.hid (never_take hlt)
      have HK := Lib.hid (ks_take hlt)
      have hi1 := Lib.hid (show i + 1 ≤ L.length by omega)
      have hme : L.length - (i + 1) < L.length - i := by omega
      generalize L[i] = r at *
      obtain ⟨rk, rl, rf⟩ := r
      dsimp only at c0 c1 c2
      have RR := fun w => RC.out ⟨rk, rl, rf⟩ w
      rw [hrr] at RR
      replace RR := Lib.hid RR
      replace hrr := Lib.hid hrr
      obtain ⟨N1, N2⟩ := N
      go_upto_region 9 with (go_at_call 13; refine (RR.out _).mono ?_; rintro e w3 ⟨rfl, hb3⟩; have HB3 := Lib.hid (show Bo w3 wr.heap.size ⟨rk, rl, rf⟩ from (hb3.block _ (by simp)).trans (heap_alloc_new wr _)); replace HI := Lib.hid (HI.out.below ((below_alloc (Below.refl _ _) (.cells #[.int .i64 rk, .int .i64 rl, .int .i64 rf] 24)).trans (hb3.mono (by simp)))); clear hb3 c0 c1 c2; obtain ⟨b0, b1, b2⟩ := HB3.out.cells; dsimp only at b0 b1 b2; obtain ⟨a0, a1, a2, f0, f1, f2⟩ := HI.out.cells; dsimp only at a1 a2)
      have hbl := lt_heap HB3.out
      have hal := lt_heap HI.out.a
      generalize wr.heap.size = bx at *
      have hne1 : bx ≠ w3.heap.size := by omega
      have hne2 : w.heap.size + 1 ≠ w3.heap.size := by omega
      have hne3 : w3.heap.size ≠ w.heap.size + 1 := by omega
      have hkk : rk = 1 ∨ rk = 2 ∨ rk = 3 ∨ rk = 4 := by
        have := hrr.out
        unfold rightB at this
        dsimp only at this
        by_cases e1 : rk = 1 ∨ rk = 4
        · omega
        · rw [if_neg e1] at this
          by_cases e2 : rk = 2 ∨ rk = 3
          · omega
          · rw [if_neg e2] at this; cases this
      have hks : ks.length ≤ 16 := by
        have h1 := congrArg List.length HI.out.ru
        rw [List.length_map] at h1
        have h2 : (ksOf (L.take i)).length ≤ (L.take i).length := List.length_filter_le _ _
        rw [List.length_take] at h2
        omega
      have hx1 := Lib.hid (show ks.length + 1 ≤ maxLen ∧ (ks.length + 1) * 16 ≤ 140737488355328 by unfold maxLen; omega)
      have hwb := HI.out.bel.size
      have hks : ks.length ≤ 16 := by
        have h1 := congrArg List.length HI.out.ru
        rw [List.length_map] at h1
        have h2 : (ksOf (L.take i)).length ≤ (L.take i).length := List.length_filter_le _ _
        rw [List.length_take] at h2
        omega
      have hx1 := Lib.hid (show ks.length + 1 ≤ maxLen ∧ (ks.length + 1) * 16 ≤ 140737488355328 by unfold maxLen; omega)
      have hwb := HI.out.bel.size
      have hks : ks.length ≤ 16 := by
        have h1 := congrArg List.length HI.out.ru
        rw [List.length_map] at h1
        have h2 : (ksOf (L.take i)).length ≤ (L.take i).length := List.length_filter_le _ _
        rw [List.length_take] at h2
        omega
      have hx1 := Lib.hid (show ks.length + 1 ≤ maxLen ∧ (ks.length + 1) * 16 ≤ 140737488355328 by unfold maxLen; omega)
      have hwb := HI.out.bel.size
      rcases hkk with rfl | rfl | rfl | rfl
      · have HB5 := Lib.hid (show Below w3.heap.size w3 ((w3.alloc (.cells #[(.func (.func 30) #[] #[]), .int .i64 rf] 75)).alloc (.cells #[(.func (.func 30) #[] #[]), .int .i64 rf] 75)) from below_alloc (below_alloc (Below.refl _ _) _) _)
        have HE := Lib.hid (fun (A1 : Option Addr) (c1 : Nat) (w6 : World) (ho : w6.ownsRow w.heap.size 75 2 (.slice A1 (ks.length + 1) c1) (ks.length + 1) (kvs ks ++ [kfun ⟨1, rl, rf⟩ bx, .int .i64 rf])) (hg : ((w3.alloc (.cells #[(.func (.func 30) #[] #[]), .int .i64 rf] 75)).alloc (.cells #[(.func (.func 30) #[] #[]), .int .i64 rf] 75)).grownBy w6 (Value.slice A ks.length c).ownBlock) => comp_end (L' := L.take (i + 1)) (r := ⟨1, rl, rf⟩) HI.out HB3.out HB5.out ho hg (by rw [HK.out]; rfl) (by rw [HN.out, HI.out.nv]; rfl))
        have HO := Lib.hid (own_below HI.out.k.own HB5.out)
        have hnew : Hid (((w3.alloc (.cells #[(.func (.func 30) #[] #[]), .int .i64 rf] 75)).alloc (.cells #[(.func (.func 30) #[] #[]), .int .i64 rf] 75)).heap[w3.heap.size + 1]? = some (.cells #[(.func (.func 30) #[] #[]), .int .i64 rf] 75)) := Lib.hid (by have := heap_alloc_new (w3.alloc (.cells #[(.func (.func 30) #[] #[]), .int .i64 rf] 75)) (.cells #[(.func (.func 30) #[] #[]), .int .i64 rf] 75); rwa [World.size_alloc] at this)
        have hbz := Lib.hid (show w.heap.size ≤ ((w3.alloc (.cells #[(.func (.func 30) #[] #[]), .int .i64 rf] 75)).alloc (.cells #[(.func (.func 30) #[] #[]), .int .i64 rf] 75)).heap.size by simp; omega)
        go_wp2_with (at_builtin
                     refine wpList_append_any _ rfl _ _ 30 rfl w.heap.size 75 i0 _ 2 16 Try.underlying30 hi'.out hz0 hz1 hz2 rfl (by decide) _ _ _ rfl HO.out _ _ 1 1 _ rfl (reads2 hnew.out) (by simp [Value.oneCell']) hx1.out.1 hx1.out.2 hbz.out ?_
                     intro v1 w6 ho1 hg1 ha1
                     obtain ⟨A1, c1, rfl, hcap1⟩ := own_slice_cap ho1
                     obtain ⟨k1, k2, k3⟩ := HE.out _ _ _ ho1 hg1
                     replace k1 := Lib.hid k1
                     clear ho1 hg1 ha1 hcap1)
        go_roundw
        case rel => exact ⟨i + 1, by go_num, hi1.out, k1⟩
        case measure => simp [intOf]; omega
      · have HB5 := Lib.hid (show Below w3.heap.size w3 ((w3.alloc (.cells #[(.func (.func 31) #[] #[.pointer (some ⟨bx, 0, none⟩)]), .int .i64 rf] 75)).alloc (.cells #[(.func (.func 31) #[] #[.pointer (some ⟨bx, 0, none⟩)]), .int .i64 rf] 75)) from below_alloc (below_alloc (Below.refl _ _) _) _)
        have HE := Lib.hid (fun (A1 : Option Addr) (c1 : Nat) (w6 : World) (ho : w6.ownsRow w.heap.size 75 2 (.slice A1 (ks.length + 1) c1) (ks.length + 1) (kvs ks ++ [kfun ⟨2, rl, rf⟩ bx, .int .i64 rf])) (hg : ((w3.alloc (.cells #[(.func (.func 31) #[] #[.pointer (some ⟨bx, 0, none⟩)]), .int .i64 rf] 75)).alloc (.cells #[(.func (.func 31) #[] #[.pointer (some ⟨bx, 0, none⟩)]), .int .i64 rf] 75)).grownBy w6 (Value.slice A ks.length c).ownBlock) => comp_end (L' := L.take (i + 1)) (r := ⟨2, rl, rf⟩) HI.out HB3.out HB5.out ho hg (by rw [HK.out]; rfl) (by rw [HN.out, HI.out.nv]; rfl))
        have HO := Lib.hid (own_below HI.out.k.own HB5.out)
        have hnew : Hid (((w3.alloc (.cells #[(.func (.func 31) #[] #[.pointer (some ⟨bx, 0, none⟩)]), .int .i64 rf] 75)).alloc (.cells #[(.func (.func 31) #[] #[.pointer (some ⟨bx, 0, none⟩)]), .int .i64 rf] 75)).heap[w3.heap.size + 1]? = some (.cells #[(.func (.func 31) #[] #[.pointer (some ⟨bx, 0, none⟩)]), .int .i64 rf] 75)) := Lib.hid (by have := heap_alloc_new (w3.alloc (.cells #[(.func (.func 31) #[] #[.pointer (some ⟨bx, 0, none⟩)]), .int .i64 rf] 75)) (.cells #[(.func (.func 31) #[] #[.pointer (some ⟨bx, 0, none⟩)]), .int .i64 rf] 75); rwa [World.size_alloc] at this)
        have hbz := Lib.hid (show w.heap.size ≤ ((w3.alloc (.cells #[(.func (.func 31) #[] #[.pointer (some ⟨bx, 0, none⟩)]), .int .i64 rf] 75)).alloc (.cells #[(.func (.func 31) #[] #[.pointer (some ⟨bx, 0, none⟩)]), .int .i64 rf] 75)).heap.size by simp; omega)
        go_wp2_with (at_builtin
                     refine wpList_append_any _ rfl _ _ 30 rfl w.heap.size 75 i0 _ 2 16 Try.underlying30 hi'.out hz0 hz1 hz2 rfl (by decide) _ _ _ rfl HO.out _ _ 1 1 _ rfl (reads2 hnew.out) (by simp [Value.oneCell']) hx1.out.1 hx1.out.2 hbz.out ?_
                     intro v1 w6 ho1 hg1 ha1
                     obtain ⟨A1, c1, rfl, hcap1⟩ := own_slice_cap ho1
                     obtain ⟨k1, k2, k3⟩ := HE.out _ _ _ ho1 hg1
                     replace k1 := Lib.hid k1
                     clear ho1 hg1 ha1 hcap1)
        go_roundw
        case rel => exact ⟨i + 1, by go_num, hi1.out, k1⟩
        case measure => simp [intOf]; omega
      · have HB5 := Lib.hid (show Below w3.heap.size w3 ((w3.alloc (.cells #[(.func (.func 33) #[] #[.pointer (some ⟨bx, 0, none⟩)]), .int .i64 rf] 75)).alloc (.cells #[(.func (.func 33) #[] #[.pointer (some ⟨bx, 0, none⟩)]), .int .i64 rf] 75)) from below_alloc (below_alloc (Below.refl _ _) _) _)
        have HE := Lib.hid (fun (A1 : Option Addr) (c1 : Nat) (w6 : World) (ho : w6.ownsRow w.heap.size 75 2 (.slice A1 (ks.length + 1) c1) (ks.length + 1) (kvs ks ++ [kfun ⟨3, rl, rf⟩ bx, .int .i64 rf])) (hg : ((w3.alloc (.cells #[(.func (.func 33) #[] #[.pointer (some ⟨bx, 0, none⟩)]), .int .i64 rf] 75)).alloc (.cells #[(.func (.func 33) #[] #[.pointer (some ⟨bx, 0, none⟩)]), .int .i64 rf] 75)).grownBy w6 (Value.slice A ks.length c).ownBlock) => comp_end (L' := L.take (i + 1)) (r := ⟨3, rl, rf⟩) HI.out HB3.out HB5.out ho hg (by rw [HK.out]; rfl) (by rw [HN.out, HI.out.nv]; rfl))
        have HO := Lib.hid (own_below HI.out.k.own HB5.out)
        have hnew : Hid (((w3.alloc (.cells #[(.func (.func 33) #[] #[.pointer (some ⟨bx, 0, none⟩)]), .int .i64 rf] 75)).alloc (.cells #[(.func (.func 33) #[] #[.pointer (some ⟨bx, 0, none⟩)]), .int .i64 rf] 75)).heap[w3.heap.size + 1]? = some (.cells #[(.func (.func 33) #[] #[.pointer (some ⟨bx, 0, none⟩)]), .int .i64 rf] 75)) := Lib.hid (by have := heap_alloc_new (w3.alloc (.cells #[(.func (.func 33) #[] #[.pointer (some ⟨bx, 0, none⟩)]), .int .i64 rf] 75)) (.cells #[(.func (.func 33) #[] #[.pointer (some ⟨bx, 0, none⟩)]), .int .i64 rf] 75); rwa [World.size_alloc] at this)
        have hbz := Lib.hid (show w.heap.size ≤ ((w3.alloc (.cells #[(.func (.func 33) #[] #[.pointer (some ⟨bx, 0, none⟩)]), .int .i64 rf] 75)).alloc (.cells #[(.func (.func 33) #[] #[.pointer (some ⟨bx, 0, none⟩)]), .int .i64 rf] 75)).heap.size by simp; omega)
        go_wp2_with (at_builtin
                     refine wpList_append_any _ rfl _ _ 30 rfl w.heap.size 75 i0 _ 2 16 Try.underlying30 hi'.out hz0 hz1 hz2 rfl (by decide) _ _ _ rfl HO.out _ _ 1 1 _ rfl (reads2 hnew.out) (by simp [Value.oneCell']) hx1.out.1 hx1.out.2 hbz.out ?_
                     intro v1 w6 ho1 hg1 ha1
                     obtain ⟨A1, c1, rfl, hcap1⟩ := own_slice_cap ho1
                     obtain ⟨k1, k2, k3⟩ := HE.out _ _ _ ho1 hg1
                     replace k1 := Lib.hid k1
                     clear ho1 hg1 ha1 hcap1)
        go_roundw
        case rel => exact ⟨i + 1, by go_num, hi1.out, k1⟩
        case measure => simp [intOf]; omega
      · have HI4 := Lib.hid (HI.out.below (below_alloc (Below.refl _ _) (.cells #[.nilFunc, .int .i64 rf] 75)))
        have HKK := Lib.hid (show ksOf (L.take (i + 1)) = ksOf (L.take i) by rw [HK.out]; simp)
        cases N2 with
        | false =>
          have HE := Lib.hid ((HI.out.never (L' := L.take (i + 1)) rf HKK.out (by rw [HN.out, HI.out.nv]; rfl)).below (below_alloc (Below.refl _ _) (.cells #[.nilFunc, .int .i64 rf] 75)))
          go_wp2
          go_roundw
          case rel => exact ⟨i + 1, by go_num, hi1.out, Lib.hid ⟨_, _, _, _, HE.out⟩⟩
          case measure => simp [intOf]; omega
        | true =>
          by_cases hlf : rf < N1
          · have hlfd : decide (rf < N1) = true := decide_eq_true hlf
            have HE := Lib.hid ((HI.out.never (L' := L.take (i + 1)) rf HKK.out (by rw [HN.out, HI.out.nv]; unfold neverStep; rw [if_pos rfl, if_pos (.inr hlf)])).below (below_alloc (Below.refl _ _) (.cells #[.nilFunc, .int .i64 rf] 75)))
            go_wp2
            go_roundw
            case rel => exact ⟨i + 1, by go_num, hi1.out, Lib.hid ⟨_, _, _, _, HE.out⟩⟩
            case measure => simp [intOf]; omega
          · have hlfd : decide (rf < N1) = false := decide_eq_false hlf
            have HE := Lib.hid (HI4.out.same (L' := L.take (i + 1)) HKK.out (by rw [HN.out, HI.out.nv]; unfold neverStep; rw [if_pos rfl, if_neg (fun h => h.elim (fun h => by cases h) hlf)]))
            go_wp2
            go_roundw
            case rel => exact ⟨i + 1, by go_num, hi1.out, Lib.hid ⟨_, _, _, _, HE.out⟩⟩
            case measure => simp [intOf]; omega
    · obtain rfl : i = L.length := by omega
      obtain ⟨a0, a1, a2, f0, f1, f2⟩ := HI.out.cells
      have r0 := cell_of_row wr w.heap.size 0 _ _ (0, 0) HI.out.r
      have r1 := cell_of_row wr w.heap.size 1 _ _ (0, 0) HI.out.r
      have r2 := cell_of_row wr w.heap.size 2 _ _ (0, 0) HI.out.r
      have s0 := frozen_of_row wr w.heap.size 0 _ _ HI.out.r
      have s1 := frozen_of_row wr w.heap.size 1 _ _ HI.out.r
      have s2 := frozen_of_row wr w.heap.size 2 _ _ HI.out.r
      simp at r0 r1 r2
      obtain ⟨e1, e2, e3⟩ := comp_ret HI.out (Nat.le_refl _)
      have q0 := cell_of_row _ w.heap.size 0 _ _ (0, 0) e1
      have q1 := cell_of_row _ w.heap.size 1 _ _ (0, 0) e1
      have q2 := cell_of_row _ w.heap.size 2 _ _ (0, 0) e1
      simp only [List.size_toArray, List.getElem?_toArray, List.getElem?_cons_zero, List.getElem?_cons_succ] at q0 q1 q2
      have HNV := HI.out.nv
      have HRU := HI.out.ru
      rw [List.take_length] at HNV HRU
      subst HNV
      replace e2 := Lib.hid e2
      replace e3 := Lib.hid e3
      replace HRU := Lib.hid HRU
      replace q0 := Lib.hid q0
      replace q1 := Lib.hid q1
      replace q2 := Lib.hid q2
      go_wp2
      have q0 := q0.out
      have q1 := q1.out
      have q2 := q2.out
      exact bodyPost_ret (v := .tuple #[.agg #[.slice A ks.length c, .int .i64 (neverF L).1, .bool (neverF L).2], .int .i64 0]) (by simp [results, Try.results14, go_sem, q0, q1, q2]) rfl ⟨A, c, ks, rfl, e2.out, HRU.out, e3.out⟩
end Go.Proofs.Ytonlbeonblpblaa.All
