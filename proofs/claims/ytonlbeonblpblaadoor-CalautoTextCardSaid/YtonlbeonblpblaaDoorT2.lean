/-
  A calendar compiled: its keepers in a row, each with a box for its rule; the least of the Nevers. No condition but that the rules lie as their row says. slices.Sort and slices.Compact at []int over a row of the call's own (the shelf's contracts, laid). No condition. Till when a calendar's rules keep a moment. No condition but that the table and the keepers lie as their rows say, and that their numbers are in bounds. Till when a moment stays, and whether it stays at a minute; the least of the Nevers. No condition but that the table and the keepers lie as their rows say, and that their numbers are in bounds.
-/
import Derived.Test.YtonlbeonblpblaaDoorT1
import Derived.Laws.EntriesVeiled
import Derived.Test.YtonlbeonblpblaaDoorShelf
import Derived.Test.YtonlbeonblpblaaDoorMem
import Derived.Sort.OwnSortedInts
import Derived.Lib.SlicesCompact
namespace Go.Proofs.YtonlbeonblpblaaDoor.A36
open Go.RowKit Go.Proofs.YtonlbeonblpblaaDoorW.PrintWords Go.Proofs.YtonlbeonblpblaaDoorW.PrintLast Go.Proofs.YtonlbeonblpblaaDoorW.PrintMore Go.Proofs.YtonlbeonblpblaaDoor.Wd
set_option linter.unusedVariables false
set_option linter.unusedSimpArgs false
private theorem ymAuto (motive : Option Value → Sort _) (h1 : (b : Bool) → motive (some (.bool b))) (h2 : (x : Option Value) → motive x) : Go.yielded.match_1 motive (some undef) h1 h2 = h2 (some undef) := rfl
attribute [local go_sem, local simp] ymAuto
/-- A rule's function, its box at a block. -/
def kfun (r : Ru) (bx : Nat) : Value := if r.k = 1 then .func (.func 24) #[] #[] else if r.k = 2 then .func (.func 25) #[] #[.pointer (some ⟨bx, 0, none⟩)] else .func (.func 27) #[] #[.pointer (some ⟨bx, 0, none⟩)]
def kvs (ks : List (Ru × Nat)) : List Value := ks.flatMap fun p => [kfun p.1 p.2, .int .i64 p.1.f]
theorem kvs_len (ks : List (Ru × Nat)) : (kvs ks).length = ks.length * 2 := by
  induction ks with
  | nil => rfl
  | cons p ks ih =>
    show (kfun p.1 p.2 :: Value.int .i64 p.1.f :: kvs ks).length = _
    rw [List.length_cons, List.length_cons, ih, List.length_cons]
    omega
theorem kvs_snoc (ks : List (Ru × Nat)) (r : Ru) (b : Nat) : kvs (ks ++ [(r, b)]) = kvs ks ++ [kfun r b, .int .i64 r.f] := by simp [kvs, List.flatMap_append]
/-- The boxes of the rules. -/
def Bx (w : World) (ks : List (Ru × Nat)) : Prop := ∀ p ∈ ks, w.heap[p.2]? = some (.cells #[.int .i64 p.1.k, .int .i64 p.1.l, .int .i64 p.1.f] 46)
theorem Bx.below {w w2 : World} {ks : List (Ru × Nat)} (h : Bx w ks) (hb : Below w.heap.size w w2) : Bx w2 ks := fun p hp => (hb.block _ (lt_heap (h p hp))).trans (h p hp)
theorem Bx.chg {S : Nat → Prop} {w w2 : World} {ks : List (Ru × Nat)} (h : Bx w ks) (hc : Chg S w w2) (hs : ∀ k cur, w.heap[k]? = some (.cells cur 46) → ¬ S k) : Bx w2 ks := fun p hp => hc.old (h p hp) (hs _ _ (h p hp))
def neverStep (a : Int × Bool) (r : Ru) : Int × Bool := if r.k = 4 then (if a.2 = false ∨ r.f < a.1 then (r.f, true) else a) else a
def neverF (L : List Ru) : Int × Bool := L.foldl neverStep (0, false)
def ksOf (L : List Ru) : List Ru := L.filter fun r => decide (r.k ≠ 4)
theorem never_take {L : List Ru} {i : Nat} (h : i < L.length) : neverF (L.take (i + 1)) = neverStep (neverF (L.take i)) L[i] := by
  unfold neverF
  rw [List.take_succ_eq_append_getElem h, List.foldl_append]
  rfl
theorem ks_take {L : List Ru} {i : Nat} (h : i < L.length) : ksOf (L.take (i + 1)) = ksOf (L.take i) ++ if L[i].k = 4 then [] else [L[i]] := by
  unfold ksOf
  rw [List.take_succ_eq_append_getElem h, List.filter_append]
  by_cases e : L[i].k = 4 <;> simp [e]
/-- A compiled calendar's rules, where they lie. -/
structure KAt (w : World) (base : Nat) (A : Option Addr) (c : Nat) (ks : List (Ru × Nat)) : Prop where
  own : w.ownsRow base 78 2 (.slice A ks.length c) ks.length (kvs ks)
  bx : Bx w ks
theorem KAt.below {w w2 : World} {base : Nat} {A : Option Addr} {c : Nat} {ks : List (Ru × Nat)} (h : KAt w base A c ks) (hb : Below w.heap.size w w2) : KAt w2 base A c ks := ⟨own_below h.own hb, h.bx.below hb⟩
theorem KAt.chg {S : Nat → Prop} {w w2 : World} {base : Nat} {A : Option Addr} {c : Nat} {ks : List (Ru × Nat)} (h : KAt w base A c ks) (hc : Chg S w w2) (h1 : ∀ k cur, w.heap[k]? = some (.cells cur 78) → ¬ S k) (h2 : ∀ k cur, w.heap[k]? = some (.cells cur 46) → ¬ S k) : KAt w2 base A c ks := ⟨own_chg h.own hc h1, h.bx.chg hc h2⟩
theorem keeper_info : (Tryd.prog.info? 78).map (fun i => (i.zero, i.size, i.bytes)) = some (some (.agg #[.nilFunc, .int .i64 0]), 2, 16) := by kernel_rfl
/-- What a round of Compile keeps. -/
structure CI (w wr : World) (aB rB : Nat) (L : List Ru) (A : Option Addr) (c : Nat) (ks : List (Ru × Nat)) (N : Int × Bool) : Prop where
  k : KAt wr w.heap.size A c ks
  a : wr.heap[aB]? = some (.cells #[.slice A ks.length c, .int .i64 N.1, .bool N.2] 34)
  r : wr.heap[rB]? = some (.cells #[.slice none 0 0, .int .i64 0, .bool false] 34)
  ru : ks.map (·.1) = ksOf L
  nv : neverF L = N
  bel : Below w.heap.size w wr
  la : w.heap.size ≤ aB
  ne : rB ≠ aB
theorem CI.below {w wr w2 : World} {aB rB : Nat} {L : List Ru} {A : Option Addr} {c : Nat} {ks : List (Ru × Nat)} {N : Int × Bool} (h : CI w wr aB rB L A c ks N) (hb : Below wr.heap.size wr w2) : CI w w2 aB rB L A c ks N :=
  ⟨h.k.below hb, (hb.block _ (lt_heap h.a)).trans h.a, (hb.block _ (lt_heap h.r)).trans h.r, h.ru, h.nv, h.bel.trans (hb.mono h.bel.size), h.la, h.ne⟩
/-- The rule that is looked at, in its box. -/
def Bo (w : World) (b : Nat) (r : Ru) : Prop := w.heap[b]? = some (.cells #[.int .i64 r.k, .int .i64 r.l, .int .i64 r.f] 46)
theorem Bo.cells {w : World} {b : Nat} {r : Ru} (h : Bo w b r) : w.cell? { block := b, off := 0 } = some (.int .i64 r.k) ∧ w.cell? { block := b, off := 1 } = some (.int .i64 r.l) ∧ w.cell? { block := b, off := 2 } = some (.int .i64 r.f) := ⟨cell_of_row w b 0 _ _ (0, 0) h, cell_of_row w b 1 _ _ (0, 0) h, cell_of_row w b 2 _ _ (0, 0) h⟩
theorem CI.cells {w wr : World} {aB rB : Nat} {L : List Ru} {A : Option Addr} {c : Nat} {ks : List (Ru × Nat)} {N : Int × Bool} (h : CI w wr aB rB L A c ks N) : wr.cell? { block := aB, off := 0 } = some (.slice A ks.length c) ∧ wr.cell? { block := aB, off := 1 } = some (.int .i64 N.1) ∧ wr.cell? { block := aB, off := 2 } = some (.bool N.2) ∧ wr.frozen? { block := aB, off := 0 } = false ∧ wr.frozen? { block := aB, off := 1 } = false ∧ wr.frozen? { block := aB, off := 2 } = false :=
  ⟨cell_of_row wr aB 0 _ _ (0, 0) h.a, cell_of_row wr aB 1 _ _ (0, 0) h.a, cell_of_row wr aB 2 _ _ (0, 0) h.a, frozen_of_row wr aB 0 _ _ h.a, frozen_of_row wr aB 1 _ _ h.a, frozen_of_row wr aB 2 _ _ h.a⟩
theorem reads2 {w : World} {q : Nat} {t : TypeId} {a b : Value} (h : w.heap[q]? = some (.cells #[a, b] t)) : Reads w (q + 1) 2 (some ⟨q, 0, none⟩) 1 [a, b] := by
  refine ⟨rfl, fun _ => ⟨_, rfl, Nat.lt_succ_self _, fun j v hv => ?_⟩⟩
  have e1 : Addr.add ⟨q, 0, none⟩ j = ⟨q, j, none⟩ := by
    unfold Addr.add
    split
    · subst_vars; rfl
    · simp
  rw [e1, cell_of_row _ _ j _ _ (0, 0) h]
  simpa using hv
theorem comp_end {w w3 W5 w6 : World} {aB rB bx c c1 : Nat} {L L' : List Ru} {A A1 : Option Addr} {ks : List (Ru × Nat)} {N : Int × Bool} {r : Ru} (h : CI w w3 aB rB L A c ks N) (hB : Bo w3 bx r) (hb5 : Below w3.heap.size w3 W5)
    (ho : w6.ownsRow w.heap.size 78 2 (.slice A1 (ks.length + 1) c1) (ks.length + 1) (kvs ks ++ [kfun r bx, .int .i64 r.f])) (hg : W5.grownBy w6 (Value.slice A ks.length c).ownBlock) (hL : ksOf L' = ksOf L ++ [r]) (hN : neverF L' = N) :
    (∃ A c ks' N, CI w (w6.setCell { block := aB, off := 0 } (.slice A1 (ks.length + 1) c1)) aB rB L' A c ks' N) ∧ w6.cell? { block := aB, off := 0 } = some (.slice A ks.length c) ∧ w6.frozen? { block := aB, off := 0 } = false := by
  have hown := own_below h.k.own hb5
  have G : ∀ k o, w3.heap[k]? = some o → (∀ cur, o ≠ Obj.cells cur 78) → w6.heap[k]? = some o := fun k o hk hn => by
    have h5 : W5.heap[k]? = some o := (hb5.block k (lt_heap hk)).trans hk
    refine (hg.block k (lt_heap h5) (fun e => ?_)).trans h5
    obtain ⟨cur, hc⟩ := own_size hown _ e.symm
    rw [h5] at hc
    injection hc with hc
    exact hn cur hc
  have ha := G aB _ h.a (fun cur => by simp)
  have hS : ∀ k o, w6.heap[k]? = some o → k ≠ aB → (w6.setCell { block := aB, off := 0 } (.slice A1 (ks.length + 1) c1)).heap[k]? = some o := fun k o hk hn => (Below.heap_setCell _ _ _ _ hn).trans hk
  have hC : Chg (· = aB) w6 (w6.setCell { block := aB, off := 0 } (.slice A1 (ks.length + 1) c1)) := Chg.setCell (S := (· = aB)) (Chg.refl _ _) (p := { block := aB, off := 0 }) rfl _
  have hlen : (ks ++ [(r, bx)]).length = ks.length + 1 := by simp
  refine ⟨⟨A1, c1, ks ++ [(r, bx)], N, ⟨?_, fun p hp => ?_⟩, ?_, ?_, ?_, hN, ?_, h.la, h.ne⟩, cell_of_row w6 aB 0 _ _ (0, 0) ha, frozen_of_row w6 aB 0 _ _ ha⟩
  · rw [hlen, kvs_snoc]
    exact own_chg ho hC (fun k cur hk e => by subst e; exact heap_ne ha hk (by simp) rfl)
  · rcases List.mem_append.1 hp with hp | hp
    · have h1 := G _ _ (h.k.bx p hp) (fun cur => by simp)
      exact hS _ _ h1 (heap_ne h1 ha (by simp))
    · obtain rfl : p = (r, bx) := by simpa using hp
      have h1 := G _ _ hB (fun cur => by simp)
      exact hS _ _ h1 (heap_ne h1 ha (by simp))
  · rw [hlen]
    simp [World.setCell, Array.getElem?_modify, ha]
  · exact hS _ _ (G _ _ h.r (fun cur => by simp)) h.ne
  · rw [List.map_append, h.ru, hL]
    rfl
  · have hw3 : w.heap.size ≤ w3.heap.size := h.bel.size
    have h5 : Below w.heap.size w W5 := h.bel.trans (hb5.mono hw3)
    have h6 : Below w.heap.size w w6 := h5.grown hg h5.size (fun k e => own_base hown k e)
    exact h6.setCell (p := { block := aB, off := 0 }) h.la _
theorem comp_ret {w wr : World} {aB rB : Nat} {L : List Ru} {A : Option Addr} {c : Nat} {ks : List (Ru × Nat)} {N : Int × Bool} (h : CI w wr aB rB L A c ks N) (hr : w.heap.size ≤ rB) :
    (((wr.setCell { block := rB, off := 0 } (.slice A ks.length c)).setCell { block := rB, off := 1 } (.int .i64 N.1)).setCell { block := rB, off := 2 } (.bool N.2)).heap[rB]? = some (.cells #[.slice A ks.length c, .int .i64 N.1, .bool N.2] 34) ∧
    KAt (((wr.setCell { block := rB, off := 0 } (.slice A ks.length c)).setCell { block := rB, off := 1 } (.int .i64 N.1)).setCell { block := rB, off := 2 } (.bool N.2)) w.heap.size A c ks ∧
    Below w.heap.size w (((wr.setCell { block := rB, off := 0 } (.slice A ks.length c)).setCell { block := rB, off := 1 } (.int .i64 N.1)).setCell { block := rB, off := 2 } (.bool N.2)) := by
  have hC : Chg (· = rB) wr (((wr.setCell { block := rB, off := 0 } (.slice A ks.length c)).setCell { block := rB, off := 1 } (.int .i64 N.1)).setCell { block := rB, off := 2 } (.bool N.2)) := Chg.setCell (S := (· = rB)) (Chg.setCell (S := (· = rB)) (Chg.setCell (S := (· = rB)) (Chg.refl _ _) (p := { block := rB, off := 0 }) rfl _) (p := { block := rB, off := 1 }) rfl _) (p := { block := rB, off := 2 }) rfl _
  refine ⟨?_, h.k.chg hC (fun k cur hk e => by subst e; exact heap_ne h.r hk (by simp) rfl) (fun k cur hk e => by subst e; exact heap_ne h.r hk (by simp) rfl), hC.below h.bel h.bel.size (fun k e => e ▸ hr)⟩
  simp [World.setCell, Array.getElem?_modify]
  simp [h.r]
/-- The least of the Nevers is turned. -/
theorem CI.never {w wr : World} {aB rB : Nat} {L L' : List Ru} {A : Option Addr} {c : Nat} {ks : List (Ru × Nat)} {N : Int × Bool} (h : CI w wr aB rB L A c ks N) (f : Int) (hL : ksOf L' = ksOf L) (hN : neverF L' = (f, true)) :
    CI w ((wr.setCell { block := aB, off := 1 } (.int .i64 f)).setCell { block := aB, off := 2 } (.bool true)) aB rB L' A c ks (f, true) := by
  have hC : Chg (· = aB) wr ((wr.setCell { block := aB, off := 1 } (.int .i64 f)).setCell { block := aB, off := 2 } (.bool true)) := Chg.setCell (S := (· = aB)) (Chg.setCell (S := (· = aB)) (Chg.refl _ _) (p := { block := aB, off := 1 }) rfl _) (p := { block := aB, off := 2 }) rfl _
  refine ⟨h.k.chg hC (fun k cur hk e => by subst e; exact heap_ne h.a hk (by simp) rfl) (fun k cur hk e => by subst e; exact heap_ne h.a hk (by simp) rfl), ?_, hC.old h.r h.ne, by rw [hL]; exact h.ru, hN, hC.below h.bel h.bel.size (fun k e => e ▸ h.la), h.la, h.ne⟩
  have h1 : (wr.setCell { block := aB, off := 1 } (.int .i64 f)).heap[aB]? = some (.cells #[.slice A ks.length c, .int .i64 f, .bool N.2] 34) := by simp [World.setCell, Array.getElem?_modify, h.a]
  simp [World.setCell, Array.getElem?_modify] at h1 ⊢
  simp [h.a]
theorem CI.same {w wr : World} {aB rB : Nat} {L L' : List Ru} {A : Option Addr} {c : Nat} {ks : List (Ru × Nat)} {N : Int × Bool} (h : CI w wr aB rB L A c ks N) (hL : ksOf L' = ksOf L) (hN : neverF L' = N) : CI w wr aB rB L' A c ks N :=
  ⟨h.k, h.a, h.r, by rw [hL]; exact h.ru, hN, h.bel, h.la, h.ne⟩
def CompPost (L : List Ru) (w : World) (e : Ending) (w' : World) : Prop := ∃ A c ks, e = .returned (.tuple #[.agg #[.slice A ks.length c, .int .i64 (neverF L).1, .bool (neverF L).2], .int .i64 0]) ∧ KAt w' w.heap.size A c ks ∧ ks.map (·.1) = ksOf L ∧ Below w.heap.size w w'
set_option maxRecDepth 100000 in
set_option maxHeartbeats 4000000 in
theorem compile_ok {L : List Ru} {A0 : Option Addr} {c0 : Nat} {w : World} (hR : RuRow w w.heap.size A0 L) (hl : L.length ≤ 16) (hr : ∀ r ∈ L, rightB r = true) :
    Calls Tryd.prog 8 #[.slice A0 L.length c0] w (CompPost L w) := by
  obtain ⟨i0, hi, hz0, hz1, hz2⟩ := info_parts keeper_info
  have hi' := Lib.hid hi
  clear hi
  have RC := Lib.hid (fun (r : Ru) (w : World) => right_calls r w)
  replace hR := Lib.hid hR
  replace hr := Lib.hid hr
  have hdl : decide ((16 : Int) < (L.length : Int)) = false := decide_eq_false (by omega)
  have hdn : decide (16 < L.length) = false := decide_eq_false (by omega)
  go_enter Tryd.func8, Tryd.ntmps8
  go_wp2
  have HI : Hid (CI w ((w.alloc (.cells #[.slice none 0 0, .int .i64 0, .bool false] 34)).alloc (.cells #[.slice none 0 0, .int .i64 0, .bool false] 34)) (w.heap.size + 1) w.heap.size (L.take 0) none 0 [] (0, false)) := by
    have h1 := heap_alloc_new (w.alloc (.cells #[.slice none 0 0, .int .i64 0, .bool false] 34)) (.cells #[.slice none 0 0, .int .i64 0, .bool false] 34)
    rw [World.size_alloc] at h1
    exact Lib.hid ⟨⟨⟨rfl, .inl ⟨rfl, rfl⟩⟩, fun p hp => by cases hp⟩, h1, blk_alloc (heap_alloc_new w _) _, rfl, rfl, below_alloc (below_alloc (Below.refl _ _) _) _, Nat.le_succ _, Nat.ne_of_lt (Nat.lt_succ_self _)⟩
  go_loopw [14] (fun v14 wr => ∃ i : Nat, v14 = .int .i64 i ∧ i ≤ L.length ∧ Hid (∃ A c ks N, CI w wr (w.heap.size + 1) w.heap.size (L.take i) A c ks N)) (fun v14 _ => L.length - (intOf v14).toNat)
  case atStart => exact ⟨0, rfl, Nat.zero_le _, Lib.hid ⟨_, _, _, _, HI.out⟩⟩
  case round =>
    clear HI
    obtain ⟨i, rfl, hk, HI⟩ := hrel
    obtain ⟨A, c, ks, N, HI⟩ := HI.out
    replace HI := Lib.hid HI
    by_cases hlt : i < L.length
    · obtain ⟨ad, rfl, hadb, hra⟩ := (hR.out.below HI.out.bel) (by omega)
      obtain ⟨c0, c1, c2⟩ := hra i hlt
      clear hra
      have hrr := hr.out _ (List.getElem_mem hlt)
      have HN := Lib.hid (never_take hlt)
      have HK := Lib.hid (ks_take hlt)
      have hi1 := Lib.hid (show i + 1 ≤ L.length by omega)
      have hme : L.length - (i + 1) < L.length - i := by omega
      generalize L[i] = r at *
      obtain ⟨rk, rl, rf⟩ := r
      dsimp only at c0 c1 c2
      have RR := fun w => RC.out ⟨rk, rl, rf⟩ w
      rw [hrr] at RR
      replace RR := Lib.hid RR
      replace hrr := Lib.hid hrr
      obtain ⟨N1, N2⟩ := N
      go_upto_region 9 with (go_at_call 14; refine (RR.out _).mono ?_; rintro e w3 ⟨rfl, hb3⟩; have HB3 := Lib.hid (show Bo w3 wr.heap.size ⟨rk, rl, rf⟩ from (hb3.block _ (by simp)).trans (heap_alloc_new wr _)); replace HI := Lib.hid (HI.out.below ((below_alloc (Below.refl _ _) (.cells #[.int .i64 rk, .int .i64 rl, .int .i64 rf] 46)).trans (hb3.mono (by simp)))); clear hb3 c0 c1 c2; obtain ⟨b0, b1, b2⟩ := HB3.out.cells; dsimp only at b0 b1 b2; obtain ⟨a0, a1, a2, f0, f1, f2⟩ := HI.out.cells; dsimp only at a1 a2)
      have hbl := lt_heap HB3.out
      have hal := lt_heap HI.out.a
      generalize wr.heap.size = bx at *
      have hne1 : bx ≠ w3.heap.size := by omega
      have hne2 : w.heap.size + 1 ≠ w3.heap.size := by omega
      have hne3 : w3.heap.size ≠ w.heap.size + 1 := by omega
      have hkk : rk = 1 ∨ rk = 2 ∨ rk = 3 ∨ rk = 4 := by
        have := hrr.out
        unfold rightB at this
        dsimp only at this
        by_cases e1 : rk = 1 ∨ rk = 4
        · omega
        · rw [if_neg e1] at this
          by_cases e2 : rk = 2 ∨ rk = 3
          · omega
          · rw [if_neg e2] at this; cases this
      have hks : ks.length ≤ 16 := by
        have h1 := congrArg List.length HI.out.ru
        rw [List.length_map] at h1
        have h2 : (ksOf (L.take i)).length ≤ (L.take i).length := List.length_filter_le _ _
        rw [List.length_take] at h2
        omega
      have hx1 := Lib.hid (show ks.length + 1 ≤ maxLen ∧ (ks.length + 1) * 16 ≤ 140737488355328 by unfold maxLen; omega)
      have hwb := HI.out.bel.size
      have hks : ks.length ≤ 16 := by
        have h1 := congrArg List.length HI.out.ru
        rw [List.length_map] at h1
        have h2 : (ksOf (L.take i)).length ≤ (L.take i).length := List.length_filter_le _ _
        rw [List.length_take] at h2
        omega
      have hx1 := Lib.hid (show ks.length + 1 ≤ maxLen ∧ (ks.length + 1) * 16 ≤ 140737488355328 by unfold maxLen; omega)
      have hwb := HI.out.bel.size
      have hks : ks.length ≤ 16 := by
        have h1 := congrArg List.length HI.out.ru
        rw [List.length_map] at h1
        have h2 : (ksOf (L.take i)).length ≤ (L.take i).length := List.length_filter_le _ _
        rw [List.length_take] at h2
        omega
      have hx1 := Lib.hid (show ks.length + 1 ≤ maxLen ∧ (ks.length + 1) * 16 ≤ 140737488355328 by unfold maxLen; omega)
      have hwb := HI.out.bel.size
      rcases hkk with rfl | rfl | rfl | rfl
      · have HB5 := Lib.hid (show Below w3.heap.size w3 ((w3.alloc (.cells #[(.func (.func 24) #[] #[]), .int .i64 rf] 78)).alloc (.cells #[(.func (.func 24) #[] #[]), .int .i64 rf] 78)) from below_alloc (below_alloc (Below.refl _ _) _) _)
        have HE := Lib.hid (fun (A1 : Option Addr) (c1 : Nat) (w6 : World) (ho : w6.ownsRow w.heap.size 78 2 (.slice A1 (ks.length + 1) c1) (ks.length + 1) (kvs ks ++ [kfun ⟨1, rl, rf⟩ bx, .int .i64 rf])) (hg : ((w3.alloc (.cells #[(.func (.func 24) #[] #[]), .int .i64 rf] 78)).alloc (.cells #[(.func (.func 24) #[] #[]), .int .i64 rf] 78)).grownBy w6 (Value.slice A ks.length c).ownBlock) => comp_end (L' := L.take (i + 1)) (r := ⟨1, rl, rf⟩) HI.out HB3.out HB5.out ho hg (by rw [HK.out]; rfl) (by rw [HN.out, HI.out.nv]; rfl))
        have HO := Lib.hid (own_below HI.out.k.own HB5.out)
        have hnew : Hid (((w3.alloc (.cells #[(.func (.func 24) #[] #[]), .int .i64 rf] 78)).alloc (.cells #[(.func (.func 24) #[] #[]), .int .i64 rf] 78)).heap[w3.heap.size + 1]? = some (.cells #[(.func (.func 24) #[] #[]), .int .i64 rf] 78)) := Lib.hid (by have := heap_alloc_new (w3.alloc (.cells #[(.func (.func 24) #[] #[]), .int .i64 rf] 78)) (.cells #[(.func (.func 24) #[] #[]), .int .i64 rf] 78); rwa [World.size_alloc] at this)
        have hbz := Lib.hid (show w.heap.size ≤ ((w3.alloc (.cells #[(.func (.func 24) #[] #[]), .int .i64 rf] 78)).alloc (.cells #[(.func (.func 24) #[] #[]), .int .i64 rf] 78)).heap.size by simp; omega)
        go_wp2_with (at_builtin
                     refine wpList_append_any _ rfl _ _ 32 rfl w.heap.size 78 i0 _ 2 16 Tryd.underlying32 hi'.out hz0 hz1 hz2 rfl (by decide) _ _ _ rfl HO.out _ _ 1 1 _ rfl (reads2 hnew.out) (by simp [Value.oneCell']) hx1.out.1 hx1.out.2 hbz.out ?_
                     intro v1 w6 ho1 hg1 ha1
                     obtain ⟨A1, c1, rfl, hcap1⟩ := own_slice_cap ho1
                     obtain ⟨k1, k2, k3⟩ := HE.out _ _ _ ho1 hg1
                     replace k1 := Lib.hid k1
                     clear ho1 hg1 ha1 hcap1)
        go_roundw
        case rel => exact ⟨i + 1, by go_num, hi1.out, k1⟩
        case measure => simp [intOf]; omega
      · have HB5 := Lib.hid (show Below w3.heap.size w3 ((w3.alloc (.cells #[(.func (.func 25) #[] #[.pointer (some ⟨bx, 0, none⟩)]), .int .i64 rf] 78)).alloc (.cells #[(.func (.func 25) #[] #[.pointer (some ⟨bx, 0, none⟩)]), .int .i64 rf] 78)) from below_alloc (below_alloc (Below.refl _ _) _) _)
        have HE := Lib.hid (fun (A1 : Option Addr) (c1 : Nat) (w6 : World) (ho : w6.ownsRow w.heap.size 78 2 (.slice A1 (ks.length + 1) c1) (ks.length + 1) (kvs ks ++ [kfun ⟨2, rl, rf⟩ bx, .int .i64 rf])) (hg : ((w3.alloc (.cells #[(.func (.func 25) #[] #[.pointer (some ⟨bx, 0, none⟩)]), .int .i64 rf] 78)).alloc (.cells #[(.func (.func 25) #[] #[.pointer (some ⟨bx, 0, none⟩)]), .int .i64 rf] 78)).grownBy w6 (Value.slice A ks.length c).ownBlock) => comp_end (L' := L.take (i + 1)) (r := ⟨2, rl, rf⟩) HI.out HB3.out HB5.out ho hg (by rw [HK.out]; rfl) (by rw [HN.out, HI.out.nv]; rfl))
        have HO := Lib.hid (own_below HI.out.k.own HB5.out)
        have hnew : Hid (((w3.alloc (.cells #[(.func (.func 25) #[] #[.pointer (some ⟨bx, 0, none⟩)]), .int .i64 rf] 78)).alloc (.cells #[(.func (.func 25) #[] #[.pointer (some ⟨bx, 0, none⟩)]), .int .i64 rf] 78)).heap[w3.heap.size + 1]? = some (.cells #[(.func (.func 25) #[] #[.pointer (some ⟨bx, 0, none⟩)]), .int .i64 rf] 78)) := Lib.hid (by have := heap_alloc_new (w3.alloc (.cells #[(.func (.func 25) #[] #[.pointer (some ⟨bx, 0, none⟩)]), .int .i64 rf] 78)) (.cells #[(.func (.func 25) #[] #[.pointer (some ⟨bx, 0, none⟩)]), .int .i64 rf] 78); rwa [World.size_alloc] at this)
        have hbz := Lib.hid (show w.heap.size ≤ ((w3.alloc (.cells #[(.func (.func 25) #[] #[.pointer (some ⟨bx, 0, none⟩)]), .int .i64 rf] 78)).alloc (.cells #[(.func (.func 25) #[] #[.pointer (some ⟨bx, 0, none⟩)]), .int .i64 rf] 78)).heap.size by simp; omega)
        go_wp2_with (at_builtin
                     refine wpList_append_any _ rfl _ _ 32 rfl w.heap.size 78 i0 _ 2 16 Tryd.underlying32 hi'.out hz0 hz1 hz2 rfl (by decide) _ _ _ rfl HO.out _ _ 1 1 _ rfl (reads2 hnew.out) (by simp [Value.oneCell']) hx1.out.1 hx1.out.2 hbz.out ?_
                     intro v1 w6 ho1 hg1 ha1
                     obtain ⟨A1, c1, rfl, hcap1⟩ := own_slice_cap ho1
                     obtain ⟨k1, k2, k3⟩ := HE.out _ _ _ ho1 hg1
                     replace k1 := Lib.hid k1
                     clear ho1 hg1 ha1 hcap1)
        go_roundw
        case rel => exact ⟨i + 1, by go_num, hi1.out, k1⟩
        case measure => simp [intOf]; omega
      · have HB5 := Lib.hid (show Below w3.heap.size w3 ((w3.alloc (.cells #[(.func (.func 27) #[] #[.pointer (some ⟨bx, 0, none⟩)]), .int .i64 rf] 78)).alloc (.cells #[(.func (.func 27) #[] #[.pointer (some ⟨bx, 0, none⟩)]), .int .i64 rf] 78)) from below_alloc (below_alloc (Below.refl _ _) _) _)
        have HE := Lib.hid (fun (A1 : Option Addr) (c1 : Nat) (w6 : World) (ho : w6.ownsRow w.heap.size 78 2 (.slice A1 (ks.length + 1) c1) (ks.length + 1) (kvs ks ++ [kfun ⟨3, rl, rf⟩ bx, .int .i64 rf])) (hg : ((w3.alloc (.cells #[(.func (.func 27) #[] #[.pointer (some ⟨bx, 0, none⟩)]), .int .i64 rf] 78)).alloc (.cells #[(.func (.func 27) #[] #[.pointer (some ⟨bx, 0, none⟩)]), .int .i64 rf] 78)).grownBy w6 (Value.slice A ks.length c).ownBlock) => comp_end (L' := L.take (i + 1)) (r := ⟨3, rl, rf⟩) HI.out HB3.out HB5.out ho hg (by rw [HK.out]; rfl) (by rw [HN.out, HI.out.nv]; rfl))
        have HO := Lib.hid (own_below HI.out.k.own HB5.out)
        have hnew : Hid (((w3.alloc (.cells #[(.func (.func 27) #[] #[.pointer (some ⟨bx, 0, none⟩)]), .int .i64 rf] 78)).alloc (.cells #[(.func (.func 27) #[] #[.pointer (some ⟨bx, 0, none⟩)]), .int .i64 rf] 78)).heap[w3.heap.size + 1]? = some (.cells #[(.func (.func 27) #[] #[.pointer (some ⟨bx, 0, none⟩)]), .int .i64 rf] 78)) := Lib.hid (by have := heap_alloc_new (w3.alloc (.cells #[(.func (.func 27) #[] #[.pointer (some ⟨bx, 0, none⟩)]), .int .i64 rf] 78)) (.cells #[(.func (.func 27) #[] #[.pointer (some ⟨bx, 0, none⟩)]), .int .i64 rf] 78); rwa [World.size_alloc] at this)
        have hbz := Lib.hid (show w.heap.size ≤ ((w3.alloc (.cells #[(.func (.func 27) #[] #[.pointer (some ⟨bx, 0, none⟩)]), .int .i64 rf] 78)).alloc (.cells #[(.func (.func 27) #[] #[.pointer (some ⟨bx, 0, none⟩)]), .int .i64 rf] 78)).heap.size by simp; omega)
        go_wp2_with (at_builtin
                     refine wpList_append_any _ rfl _ _ 32 rfl w.heap.size 78 i0 _ 2 16 Tryd.underlying32 hi'.out hz0 hz1 hz2 rfl (by decide) _ _ _ rfl HO.out _ _ 1 1 _ rfl (reads2 hnew.out) (by simp [Value.oneCell']) hx1.out.1 hx1.out.2 hbz.out ?_
                     intro v1 w6 ho1 hg1 ha1
                     obtain ⟨A1, c1, rfl, hcap1⟩ := own_slice_cap ho1
                     obtain ⟨k1, k2, k3⟩ := HE.out _ _ _ ho1 hg1
                     replace k1 := Lib.hid k1
                     clear ho1 hg1 ha1 hcap1)
        go_roundw
        case rel => exact ⟨i + 1, by go_num, hi1.out, k1⟩
        case measure => simp [intOf]; omega
      · have HI4 := Lib.hid (HI.out.below (below_alloc (Below.refl _ _) (.cells #[.nilFunc, .int .i64 rf] 78)))
        have HKK := Lib.hid (show ksOf (L.take (i + 1)) = ksOf (L.take i) by rw [HK.out]; simp)
        cases N2 with
        | false =>
          have HE := Lib.hid ((HI.out.never (L' := L.take (i + 1)) rf HKK.out (by rw [HN.out, HI.out.nv]; rfl)).below (below_alloc (Below.refl _ _) (.cells #[.nilFunc, .int .i64 rf] 78)))
          go_wp2
          go_roundw
          case rel => exact ⟨i + 1, by go_num, hi1.out, Lib.hid ⟨_, _, _, _, HE.out⟩⟩
          case measure => simp [intOf]; omega
        | true =>
          by_cases hlf : rf < N1
          · have hlfd : decide (rf < N1) = true := decide_eq_true hlf
            have HE := Lib.hid ((HI.out.never (L' := L.take (i + 1)) rf HKK.out (by rw [HN.out, HI.out.nv]; unfold neverStep; rw [if_pos rfl, if_pos (.inr hlf)])).below (below_alloc (Below.refl _ _) (.cells #[.nilFunc, .int .i64 rf] 78)))
            go_wp2
            go_roundw
            case rel => exact ⟨i + 1, by go_num, hi1.out, Lib.hid ⟨_, _, _, _, HE.out⟩⟩
            case measure => simp [intOf]; omega
          · have hlfd : decide (rf < N1) = false := decide_eq_false hlf
            have HE := Lib.hid (HI4.out.same (L' := L.take (i + 1)) HKK.out (by rw [HN.out, HI.out.nv]; unfold neverStep; rw [if_pos rfl, if_neg (fun h => h.elim (fun h => by cases h) hlf)]))
            go_wp2
            go_roundw
            case rel => exact ⟨i + 1, by go_num, hi1.out, Lib.hid ⟨_, _, _, _, HE.out⟩⟩
            case measure => simp [intOf]; omega
    · obtain rfl : i = L.length := by omega
      obtain ⟨a0, a1, a2, f0, f1, f2⟩ := HI.out.cells
      have r0 := cell_of_row wr w.heap.size 0 _ _ (0, 0) HI.out.r
      have r1 := cell_of_row wr w.heap.size 1 _ _ (0, 0) HI.out.r
      have r2 := cell_of_row wr w.heap.size 2 _ _ (0, 0) HI.out.r
      have s0 := frozen_of_row wr w.heap.size 0 _ _ HI.out.r
      have s1 := frozen_of_row wr w.heap.size 1 _ _ HI.out.r
      have s2 := frozen_of_row wr w.heap.size 2 _ _ HI.out.r
      simp at r0 r1 r2
      obtain ⟨e1, e2, e3⟩ := comp_ret HI.out (Nat.le_refl _)
      have q0 := cell_of_row _ w.heap.size 0 _ _ (0, 0) e1
      have q1 := cell_of_row _ w.heap.size 1 _ _ (0, 0) e1
      have q2 := cell_of_row _ w.heap.size 2 _ _ (0, 0) e1
      simp only [List.size_toArray, List.getElem?_toArray, List.getElem?_cons_zero, List.getElem?_cons_succ] at q0 q1 q2
      have HNV := HI.out.nv
      have HRU := HI.out.ru
      rw [List.take_length] at HNV HRU
      subst HNV
      replace e2 := Lib.hid e2
      replace e3 := Lib.hid e3
      replace HRU := Lib.hid HRU
      replace q0 := Lib.hid q0
      replace q1 := Lib.hid q1
      replace q2 := Lib.hid q2
      go_wp2
      have q0 := q0.out
      have q1 := q1.out
      have q2 := q2.out
      exact bodyPost_ret (v := .tuple #[.agg #[.slice A ks.length c, .int .i64 (neverF L).1, .bool (neverF L).2], .int .i64 0]) (by simp [results, Tryd.results8, go_sem, q0, q1, q2]) rfl ⟨A, c, ks, rfl, e2.out, HRU.out, e3.out⟩
end Go.Proofs.YtonlbeonblpblaaDoor.A36
namespace Go.Proofs.YtonlbeonblpblaaDoor.A36
open Go.RowKit Go.Lib Go.Sort Go.Shelf Go.Proofs.YtonlbeonblpblaaDoorW.PrintWords Go.Proofs.YtonlbeonblpblaaDoor.Wd
set_option linter.unusedVariables false
set_option linter.unusedSimpArgs false
/-- slices.Sort over a row of the call's own. -/
theorem sort_own {W : World} {base : Nat} {v : Value} {xs : List Int} (h : W.ownsRow base 3 1 v xs.length (xs.map (Value.int .i64))) (hl : xs.length < 4611686018427387904) :
    Calls Tryd.prog 49 #[v] W fun e w' => e = .returned (.tuple #[]) ∧ w'.ownsRow base 3 1 v xs.length ((xs.mergeSort fun x y => decide (x ≤ y)).map (Value.int .i64)) ∧ W.grownBy w' v.ownBlock := by
  rcases h.2 with ⟨rfl, h0⟩ | ⟨g, cap, cur, rfl, hb, hg, hc, hm, hs, ht⟩
  · have : xs = [] := List.length_eq_zero_iff.1 h0
    subst this
    exact (Tryd.slices_Sort_int_none none 0 W).mono fun e w' ⟨he, hw⟩ => ⟨he, by subst hw; exact ⟨by simp, .inl ⟨rfl, rfl⟩⟩, by subst hw; exact ⟨rfl, rfl, rfl, Nat.le_refl _, fun _ _ _ => rfl⟩⟩
  · rw [Nat.mul_one] at ht
    refine (Tryd.slices_Sort_int g 0 cap xs W (holds_of_blockI hg ht) (Array.getElem?_eq_some_iff.1 hg).1 hl).mono fun e w' ⟨he, n, os, hw⟩ => ⟨he, ?_, ?_⟩
    · subst hw
      exact ownsRow_sortedI (by rw [List.length_mergeSort]) hb hg hc hm hs
    · subst hw
      exact grownBy_sortedI _
/-- slices.Compact over a row of the call's own. -/
theorem compact_own {W : World} {base : Nat} {v : Value} {xs : List Int} (h : W.ownsRow base 3 1 v xs.length (xs.map (Value.int .i64))) (hl : xs.length ≤ 9223372036854775807) (hk : (Lib.compact xs).length ≤ xs.length) :
    Calls Tryd.prog 50 #[v] W fun e w' => ∃ v', e = .returned v' ∧ w'.ownsRow base 3 1 v' (Lib.compact xs).length ((Lib.compact xs).map (Value.int .i64)) ∧ W.grownBy w' v.ownBlock := by
  rcases h.2 with ⟨rfl, h0⟩ | ⟨g, cap, cur, rfl, hb, hg, hc, hm, hs, ht⟩
  · have : xs = [] := List.length_eq_zero_iff.1 h0
    subst this
    exact (Tryd.slices_Compact_int_empty none 0 W).mono fun e w' ⟨he, hw⟩ => ⟨_, he, by subst hw; exact ⟨by simp [Lib.compact, Lib.compactUpTo], .inl ⟨rfl, by simp [Lib.compact, Lib.compactUpTo]⟩⟩, by subst hw; exact ⟨rfl, rfl, rfl, Nat.le_refl _, fun _ _ _ => rfl⟩⟩
  · rw [Nat.mul_one] at ht
    refine (Tryd.slices_Compact_int g 0 cap xs W (holds_of_blockI hg ht) hl hc).mono fun e w' ⟨he, q, hw⟩ => ⟨_, he, ?_, ?_⟩
    · subst hw
      have hz := heap_sortedI (n := q) (os := #[]) (Lib.compact xs ++ List.replicate (xs.length - (Lib.compact xs).length) 0).toArray hg
      rw [grow_empty] at hz
      refine ⟨by simp, .inr ⟨g, cap, _, rfl, hb, hz, by omega, hm, by simp [putCells, hs], ?_⟩⟩
      have htk := take_putCellsI cur (Lib.compact xs ++ List.replicate (xs.length - (Lib.compact xs).length) 0) (by rw [List.length_append, List.length_replicate]; omega)
      have := congrArg (List.take (Lib.compact xs).length) htk
      rw [List.take_take, Nat.min_eq_left (by rw [List.length_append]; omega), List.map_append, List.take_left' (by simp)] at this
      rw [Nat.mul_one]
      exact this
    · subst hw
      have := grownBy_sortedI (w := W) (g := g) (n := q) (os := #[]) (Lib.compact xs ++ List.replicate (xs.length - (Lib.compact xs).length) 0).toArray
      rw [grow_empty] at this
      exact this
end Go.Proofs.YtonlbeonblpblaaDoor.A36
namespace Go.Proofs.YtonlbeonblpblaaDoor.A36
open Go.RowKit Go.Proofs.YtonlbeonblpblaaDoorW.PrintWords Go.Proofs.YtonlbeonblpblaaDoorW.PrintLast Go.Proofs.YtonlbeonblpblaaDoorW.PrintMore Go.Proofs.YtonlbeonblpblaaDoor.Wd
set_option linter.unusedVariables false
set_option linter.unusedSimpArgs false
private theorem ymMins (motive : Option Value → Sort _) (h1 : (b : Bool) → motive (some (.bool b))) (h2 : (x : Option Value) → motive x) : Go.yielded.match_1 motive (some undef) h1 h2 = h2 (some undef) := rfl
attribute [local go_sem, local simp] ymMins
/-- Does a rule keep a moment? -/
def keepM (M : List It) (num : Int) (r : Ru) : Bool := if r.k = 1 then true else if r.k = 2 then closesM M num r.l else quietM M num r.l
def spanN (N : Int × Bool) (r : Ru) : Int := if N.2 = true then min r.f N.1 else r.f
def raw (M : List It) (num : Int) (N : Int × Bool) (rs : List Ru) : List Int := (rs.filter (keepM M num)).map fun r => minM M num + spanN N r
def minsF (M : List It) (num : Int) (N : Int × Bool) (rs : List Ru) : List Int := if hit M num = true then Lib.compact ((raw M num N rs).mergeSort fun x y => decide (x ≤ y)) else []
theorem raw_len (M : List It) (num : Int) (N : Int × Bool) (rs : List Ru) : (raw M num N rs).length ≤ rs.length := by
  unfold raw
  rw [List.length_map]
  exact List.length_filter_le _ _
theorem raw_snoc (M : List It) (num : Int) (N : Int × Bool) (rs : List Ru) (r : Ru) : raw M num N (rs ++ [r]) = raw M num N rs ++ if keepM M num r = true then [minM M num + spanN N r] else [] := by
  unfold raw
  rw [List.filter_append, List.map_append]
  cases h : keepM M num r <;> simp [h]
theorem kvs_get : ∀ (ks : List (Ru × Nat)) (j : Nat) (h : j < ks.length), (kvs ks)[j * 2]? = some (kfun ks[j].1 ks[j].2) ∧ (kvs ks)[j * 2 + 1]? = some (.int .i64 ks[j].1.f)
  | p :: ks, 0, _ => ⟨rfl, rfl⟩
  | p :: ks, j + 1, h => by
    have e1 : (j + 1) * 2 = j * 2 + 2 := by omega
    show (kfun p.1 p.2 :: Value.int .i64 p.1.f :: kvs ks)[(j + 1) * 2]? = _ ∧ (kfun p.1 p.2 :: Value.int .i64 p.1.f :: kvs ks)[(j + 1) * 2 + 1]? = _
    rw [e1, List.getElem?_cons_succ, List.getElem?_cons_succ, show j * 2 + 2 + 1 = (j * 2 + 1) + 2 by omega, List.getElem?_cons_succ, List.getElem?_cons_succ]
    exact kvs_get ks j (by simpa using h)
set_option maxRecDepth 100000 in
theorem each_calls (p n : Value) (w : World) : Calls Tryd.prog 24 #[p, n] w fun e w' => e = .returned (.bool true) ∧ w = w' := by
  go_enter Tryd.func24, Tryd.ntmps24
  go_wp2
  go_ret
  exact ⟨rfl, rfl⟩
set_option maxRecDepth 100000 in
theorem window_calls {M : List It} (g : Good M) {A : Option Addr} {base b c bx : Nat} {w : World} {r : Ru} (h : TAt w base b A c M) (hb : Bo w bx r) (num : Int) :
    Calls Tryd.prog 25 #[.pointer (some ⟨b, 0, none⟩), .int .u64 num, .pointer (some ⟨bx, 0, none⟩)] w fun e w' => e = .returned (.bool (closesM M num r.l)) ∧ Below w.heap.size w w' := by
  have CC := Lib.hid (closes_calls g h num r.l)
  obtain ⟨b0, b1, b2⟩ := hb.cells
  clear h hb
  go_enter Tryd.func25, Tryd.ntmps25
  go_wp2_with (go_at_call 26; refine CC.out.mono ?_; rintro e w3 ⟨rfl, hb3⟩; replace hb3 := Lib.hid hb3)
  go_ret
  exact ⟨rfl, hb3.out⟩
set_option maxRecDepth 100000 in
theorem gap_calls {M : List It} (g : Good M) {A : Option Addr} {base b c bx : Nat} {w : World} {r : Ru} (h : TAt w base b A c M) (hb : Bo w bx r) (num : Int) :
    Calls Tryd.prog 27 #[.pointer (some ⟨b, 0, none⟩), .int .u64 num, .pointer (some ⟨bx, 0, none⟩)] w fun e w' => e = .returned (.bool (quietM M num r.l)) ∧ Below w.heap.size w w' := by
  have CC := Lib.hid (quiet_calls g h num r.l)
  obtain ⟨b0, b1, b2⟩ := hb.cells
  clear h hb
  go_enter Tryd.func27, Tryd.ntmps27
  go_wp2_with (go_at_call 28; refine CC.out.mono ?_; rintro e w3 ⟨rfl, hb3⟩; replace hb3 := Lib.hid hb3)
  go_ret
  exact ⟨rfl, hb3.out⟩
/-- What a round keeps. -/
structure MI (w wr : World) (Ak : Option Addr) (nk ck : Nat) (N : Int × Bool) (v : Value) (xs : List Int) : Prop where
  own : wr.ownsRow w.heap.size 3 1 v xs.length (xs.map (Value.int .i64))
  box : wr.heap[w.heap.size]? = some (.cells #[.slice Ak nk ck, .int .i64 N.1, .bool N.2] 34)
  bel : Below w.heap.size w wr
theorem MI.below {w wr w2 : World} {Ak : Option Addr} {nk ck : Nat} {N : Int × Bool} {v : Value} {xs : List Int} (h : MI w wr Ak nk ck N v xs) (hb : Below wr.heap.size wr w2) : MI w w2 Ak nk ck N v xs := ⟨own_below h.own hb, (hb.block _ (lt_heap h.box)).trans h.box, h.bel.trans (hb.mono h.bel.size)⟩
theorem MI.cells {w wr : World} {Ak : Option Addr} {nk ck : Nat} {N : Int × Bool} {v : Value} {xs : List Int} (h : MI w wr Ak nk ck N v xs) : wr.cell? { block := w.heap.size, off := 0 } = some (.slice Ak nk ck) ∧ wr.cell? { block := w.heap.size, off := 1 } = some (.int .i64 N.1) ∧ wr.cell? { block := w.heap.size, off := 2 } = some (.bool N.2) :=
  ⟨cell_of_row wr _ 0 _ _ (0, 0) h.box, cell_of_row wr _ 1 _ _ (0, 0) h.box, cell_of_row wr _ 2 _ _ (0, 0) h.box⟩
theorem comp_le (zs : List Int) : (Lib.compact zs).length ≤ zs.length := by
  have : ∀ (d : Array Int) m, (Lib.compactUpTo d m).length ≤ m := fun d m => by
    induction m with
    | zero => simp [Lib.compactUpTo]
    | succ m ih =>
      rw [Lib.compactUpTo_succ, List.length_append]
      split
      · simpa using ih
      · simp; omega
  exact this _ _
theorem own_size1 {w : World} {base : Nat} {e : TypeId} {size n : Nat} {v : Value} {xs : List Value} (h : w.ownsRow base e size v n xs) : ∀ g, v.ownBlock = some g → ∃ cur, w.heap[g]? = some (.cells cur e) := own_size h
theorem mi_app {w w5 w6 : World} {Ak A9 : Option Addr} {nk ck c9 : Nat} {N : Int × Bool} {v : Value} {xs : List Int} {s : Int} {o : Obj} (h : MI w w5 Ak nk ck N (.slice A9 xs.length c9) xs) (ho : w6.ownsRow w.heap.size 3 1 v (xs.length + 1) (xs.map (Value.int .i64) ++ [.int .i64 s])) (hg : (w5.alloc o).grownBy w6 (Value.slice A9 xs.length c9).ownBlock) : MI w w6 Ak nk ck N v (xs ++ [s]) := by
  have hb0 : Below w5.heap.size w5 (w5.alloc o) := below_alloc (Below.refl _ _) o
  have h1 := h.below hb0
  refine ⟨?_, ?_, h1.bel.grown hg h1.bel.size (fun k e => own_base h1.own k e)⟩
  · rw [List.length_append, List.length_singleton, List.map_append]
    exact ho
  · refine (hg.block _ (lt_heap h1.box) (fun e => ?_)).trans h1.box
    obtain ⟨cur, hc⟩ := own_size h1.own _ e.symm
    exact heap_ne h1.box hc (by simp) rfl
def MinsPost (M : List It) (num : Int) (N : Int × Bool) (rs : List Ru) (w : World) (e : Ending) (w' : World) : Prop := ∃ v, e = .returned v ∧ w'.ownsRow w.heap.size 3 1 v (minsF M num N rs).length ((minsF M num N rs).map (Value.int .i64)) ∧ Below w.heap.size w w'
theorem int_info : (Tryd.prog.info? 3).map (fun i => (i.zero, i.size, i.bytes)) = some (some (.int .i64 0), 1, 8) := by kernel_rfl
set_option maxRecDepth 100000 in
set_option maxHeartbeats 4000000 in
theorem mins_calls {M : List It} (g : Good M) {A Ak : Option Addr} {base kb b c ck : Nat} {w : World} {ks : List (Ru × Nat)} {N : Int × Bool} (h : TAt w base b A c M) (hk : KAt w kb Ak ck ks) (hl : ks.length ≤ 16) (hf : ∀ p ∈ ks, 0 ≤ p.1.f ∧ p.1.f ≤ 1073741824) (hN : 0 ≤ N.1 ∧ N.1 ≤ 1073741824) (num : Int) :
    Calls Tryd.prog 34 #[.agg #[.slice Ak ks.length ck, .int .i64 N.1, .bool N.2], .pointer (some ⟨b, 0, none⟩), .int .u64 num] w (MinsPost M num N (ks.map (·.1)) w) := by
  obtain ⟨i0, hi, hz0, hz1, hz2⟩ := info_parts int_info
  have hi' := Lib.hid hi
  clear hi
  obtain ⟨N1, N2⟩ := N
  have hbox : Hid (((w.alloc (.cells #[.slice Ak ks.length ck, .int .i64 N1, .bool N2] 34))).heap[w.heap.size]? = some (.cells #[.slice Ak ks.length ck, .int .i64 N1, .bool N2] 34)) := Lib.hid (heap_alloc_new w _)
  have MC := min_calls g.up (h.below (below_alloc (Below.refl _ _) (.cells #[.slice Ak ks.length ck, .int .i64 N1, .bool N2] 34))) g.len num
  cases hh : hit M num with
  | false =>
    rw [hh] at MC
    have e1 := Lib.hid (show minsF M num (N1, N2) (ks.map (·.1)) = [] by unfold minsF; rw [hh]; rfl)
    replace MC := Lib.hid MC
    clear hh h hk hf
    go_enter Tryd.func34, Tryd.ntmps34
    go_wp2_with (go_at_call 48; refine MC.out.mono ?_; rintro e w3 ⟨rfl, hb3⟩; replace hb3 := Lib.hid hb3)
    go_ret
    exact ⟨.slice none 0 0, rfl, by rw [e1.out]; exact ⟨rfl, .inl ⟨rfl, rfl⟩⟩, (below_alloc (Below.refl _ _) _).trans (hb3.out.mono (by simp))⟩
  | true =>
    rw [hh] at MC
    have e1 := Lib.hid (show minsF M num (N1, N2) (ks.map (·.1)) = Lib.compact ((raw M num (N1, N2) (ks.map (·.1))).mergeSort fun x y => decide (x ≤ y)) by unfold minsF; rw [if_pos hh])
    obtain ⟨m0, m1⟩ := minM_rng g num
    replace MC := Lib.hid MC
    clear hh
    have H := Lib.hid h
    have HK := Lib.hid hk
    replace hf := Lib.hid hf
    clear h hk
    go_enter Tryd.func34, Tryd.ntmps34
    go_upto_region 5 with (go_at_call 48; refine MC.out.mono ?_; rintro e w3 ⟨rfl, hb3⟩; have HI := Lib.hid (show MI w w3 Ak ks.length ck (N1, N2) (.slice none 0 0) (raw M num (N1, N2) ((ks.take 0).map (·.1))) from ⟨⟨rfl, .inl ⟨rfl, rfl⟩⟩, (hb3.block _ (lt_heap hbox.out)).trans hbox.out, (below_alloc (Below.refl _ _) _).trans (hb3.mono (by simp))⟩); clear hb3)
    obtain ⟨x0, x1, x2⟩ := HI.out.cells
    go_wp2
    go_loopw [9, 24] (fun v9 v24 wr => ∃ j : Nat, v24 = .int .i64 j ∧ j ≤ ks.length ∧ Hid (MI w wr Ak ks.length ck (N1, N2) v9 (raw M num (N1, N2) ((ks.take j).map (·.1))))) (fun _ v24 _ => ks.length - (intOf v24).toNat)
    case atStart => exact ⟨0, rfl, Nat.zero_le _, HI⟩
    case round =>
      clear HI x0 x1 x2
      obtain ⟨j, rfl, hj, HI⟩ := hrel
      obtain ⟨A9, c9, rfl, hc9⟩ := own_slice_cap HI.out.own
      by_cases hlt : j < ks.length
      · have HKw := Lib.hid (HK.out.below (HI.out.bel.mono (Nat.le_refl _)))
        obtain ⟨q, cur, rfl, _, hqh, _, _, hqc⟩ := own_row HKw.out.own (by omega)
        have k0 := hqc _ _ (kvs_get ks j hlt).1
        have k1 := hqc _ _ (kvs_get ks j hlt).2
        have hbx : Bo wr ks[j].2 ks[j].1 := HKw.out.bx _ (List.getElem_mem hlt)
        have hfj := hf.out _ (List.getElem_mem hlt)
        have hraw := raw_snoc M num (N1, N2) ((ks.take j).map (·.1)) ks[j].1
        have htk : (ks.take (j + 1)).map (·.1) = (ks.take j).map (·.1) ++ [ks[j].1] := by rw [List.take_succ_eq_append_getElem hlt, List.map_append]; rfl
        rw [← htk] at hraw
        have hlr : (raw M num (N1, N2) ((ks.take j).map (·.1))).length ≤ 16 := Nat.le_trans (raw_len _ _ _ _) (by rw [List.length_map, List.length_take]; omega)
        have hj1 := Lib.hid (show j + 1 ≤ ks.length by omega)
        have hme : ks.length - (j + 1) < ks.length - j := by omega
        obtain ⟨ys, hys⟩ : ∃ ys, raw M num (N1, N2) ((ks.take (j + 1)).map (·.1)) = ys := ⟨_, rfl⟩
        rw [hys] at hraw
        have HYS := Lib.hid hys
        clear hqc hqh htk hys
        generalize ks[j] = p at *
        obtain ⟨⟨rk, rl, rf⟩, bx⟩ := p
        dsimp only at k0 k1 hbx hfj
        obtain ⟨hf0, hf1⟩ := hfj
        generalize raw M num (N1, N2) ((ks.take j).map (·.1)) = xs at *
        replace hraw := Lib.hid hraw
        have hx1 := Lib.hid (show xs.length + 1 ≤ maxLen ∧ (xs.length + 1) * 8 ≤ 140737488355328 by unfold maxLen; omega)
        have hwl := HI.out.bel.size
        replace hbx := Lib.hid hbx
        by_cases hk1 : rk = 1
        · subst hk1
          rw [show kfun ⟨1, rl, rf⟩ bx = (.func (.func 24) #[] #[]) from rfl] at k0
          have HB4 := Lib.hid (show Below wr.heap.size wr (wr.alloc (.cells #[(.func (.func 24) #[] #[]), .int .i64 rf] 78)) from below_alloc (Below.refl _ _) _)
          have HY0 : Hid ((wr.alloc (.cells #[(.func (.func 24) #[] #[]), .int .i64 rf] 78)).heap[wr.heap.size]? = some (.cells #[(.func (.func 24) #[] #[]), .int .i64 rf] 78)) := Lib.hid (heap_alloc_new wr _)
          cases hkp : keepM M num ⟨1, rl, rf⟩ with
          | true =>
            rw [hkp] at hraw
            have CC := Lib.hid (fun (p n : Value) (w : World) => (each_calls p n w : Calls Tryd.prog 24 #[p, n] w _))
            clear hkp
            cases N2 with
            | false =>
              have HY := Lib.hid (show ys = xs ++ [minM M num + rf] by rw [hraw.out]; simp [spanN])
              have hbz := Lib.hid (show w.heap.size ≤ wr.heap.size from hwl)
              go_wp2_with (first
                | (go_at_call 24; refine (CC.out _ _ _).mono ?_; rintro e w5 ⟨rfl, hw5⟩; have hb5 : Below (wr.alloc (.cells #[(.func (.func 24) #[] #[]), .int .i64 rf] 78)).heap.size (wr.alloc (.cells #[(.func (.func 24) #[] #[]), .int .i64 rf] 78)) w5 := hw5 ▸ Below.refl _ _; clear hw5; replace HI := Lib.hid (HI.out.below (HB4.out.trans (hb5.mono HB4.out.size))); obtain ⟨x0, x1, x2⟩ := HI.out.cells; dsimp only at x1 x2; have y1 := cell_of_row w5 wr.heap.size 1 _ _ (0, 0) ((hb5.block _ (lt_heap HY0.out)).trans HY0.out); replace y1 : w5.cell? { block := wr.heap.size, off := 1 } = some (.int .i64 rf) := y1; replace HB4 := Lib.hid (HB4.out.trans (hb5.mono HB4.out.size)); clear hb5)
                | (at_builtin; refine wpList_append_any _ rfl _ _ 81 rfl w.heap.size 3 i0 _ 1 8 Tryd.underlying81 hi'.out hz0 hz1 hz2 rfl (by decide) _ _ _ rfl (World.ownsRow.alloc HI.out.own (.cells #[.int .i64 (minM M num + rf)] 3)) _ _ 1 1 _ rfl (reads_one (heap_alloc_new _ (.cells #[.int .i64 (minM M num + rf)] 3))) (by simp [Value.oneCell']) hx1.out.1 hx1.out.2 (Nat.le_trans HI.out.bel.size (by simp)) ?_; intro v6 w6 ho6 hg6 ha6; have HE := Lib.hid (mi_app HI.out ho6 hg6); clear ho6 hg6 ha6))
              go_roundw
              case rel => exact ⟨j + 1, by go_num, hj1.out, by rw [HYS.out, HY.out]; exact HE⟩
              case measure => simp [intOf]; omega
            | true =>
              obtain ⟨hN0, hN1⟩ := hN
              try dsimp only at hN0 hN1
              by_cases hmn : rf ≤ N1
              · have hmin : min rf N1 = rf := by omega
                have hmd : decide (rf ≤ N1) = true := decide_eq_true hmn
                have HY := Lib.hid (show ys = xs ++ [minM M num + rf] by rw [hraw.out]; simp [spanN, hmin])
                have hbz := Lib.hid (show w.heap.size ≤ wr.heap.size from hwl)
                go_wp2_with (first
                  | (go_at_call 24; refine (CC.out _ _ _).mono ?_; rintro e w5 ⟨rfl, hw5⟩; have hb5 : Below (wr.alloc (.cells #[(.func (.func 24) #[] #[]), .int .i64 rf] 78)).heap.size (wr.alloc (.cells #[(.func (.func 24) #[] #[]), .int .i64 rf] 78)) w5 := hw5 ▸ Below.refl _ _; clear hw5; replace HI := Lib.hid (HI.out.below (HB4.out.trans (hb5.mono HB4.out.size))); obtain ⟨x0, x1, x2⟩ := HI.out.cells; dsimp only at x1 x2; have y1 := cell_of_row w5 wr.heap.size 1 _ _ (0, 0) ((hb5.block _ (lt_heap HY0.out)).trans HY0.out); replace y1 : w5.cell? { block := wr.heap.size, off := 1 } = some (.int .i64 rf) := y1; replace HB4 := Lib.hid (HB4.out.trans (hb5.mono HB4.out.size)); clear hb5)
                  | (at_builtin; refine wpList_append_any _ rfl _ _ 81 rfl w.heap.size 3 i0 _ 1 8 Tryd.underlying81 hi'.out hz0 hz1 hz2 rfl (by decide) _ _ _ rfl (World.ownsRow.alloc HI.out.own (.cells #[.int .i64 (minM M num + rf)] 3)) _ _ 1 1 _ rfl (reads_one (heap_alloc_new _ (.cells #[.int .i64 (minM M num + rf)] 3))) (by simp [Value.oneCell']) hx1.out.1 hx1.out.2 (Nat.le_trans HI.out.bel.size (by simp)) ?_; intro v6 w6 ho6 hg6 ha6; have HE := Lib.hid (mi_app HI.out ho6 hg6); clear ho6 hg6 ha6))
                go_roundw
                case rel => exact ⟨j + 1, by go_num, hj1.out, by rw [HYS.out, HY.out]; exact HE⟩
                case measure => simp [intOf]; omega
              · have hmin : min rf N1 = N1 := by omega
                have hmd : decide (rf ≤ N1) = false := decide_eq_false hmn
                have HY := Lib.hid (show ys = xs ++ [minM M num + N1] by rw [hraw.out]; simp [spanN, hmin])
                have hbz := Lib.hid (show w.heap.size ≤ wr.heap.size from hwl)
                go_wp2_with (first
                  | (go_at_call 24; refine (CC.out _ _ _).mono ?_; rintro e w5 ⟨rfl, hw5⟩; have hb5 : Below (wr.alloc (.cells #[(.func (.func 24) #[] #[]), .int .i64 rf] 78)).heap.size (wr.alloc (.cells #[(.func (.func 24) #[] #[]), .int .i64 rf] 78)) w5 := hw5 ▸ Below.refl _ _; clear hw5; replace HI := Lib.hid (HI.out.below (HB4.out.trans (hb5.mono HB4.out.size))); obtain ⟨x0, x1, x2⟩ := HI.out.cells; dsimp only at x1 x2; have y1 := cell_of_row w5 wr.heap.size 1 _ _ (0, 0) ((hb5.block _ (lt_heap HY0.out)).trans HY0.out); replace y1 : w5.cell? { block := wr.heap.size, off := 1 } = some (.int .i64 rf) := y1; replace HB4 := Lib.hid (HB4.out.trans (hb5.mono HB4.out.size)); clear hb5)
                  | (at_builtin; refine wpList_append_any _ rfl _ _ 81 rfl w.heap.size 3 i0 _ 1 8 Tryd.underlying81 hi'.out hz0 hz1 hz2 rfl (by decide) _ _ _ rfl (World.ownsRow.alloc HI.out.own (.cells #[.int .i64 (minM M num + N1)] 3)) _ _ 1 1 _ rfl (reads_one (heap_alloc_new _ (.cells #[.int .i64 (minM M num + N1)] 3))) (by simp [Value.oneCell']) hx1.out.1 hx1.out.2 (Nat.le_trans HI.out.bel.size (by simp)) ?_; intro v6 w6 ho6 hg6 ha6; have HE := Lib.hid (mi_app HI.out ho6 hg6); clear ho6 hg6 ha6))
                go_roundw
                case rel => exact ⟨j + 1, by go_num, hj1.out, by rw [HYS.out, HY.out]; exact HE⟩
                case measure => simp [intOf]; omega
          | false => cases hkp
        · by_cases hk2 : rk = 2
          · subst hk2
            rw [show kfun ⟨2, rl, rf⟩ bx = (.func (.func 25) #[] #[.pointer (some ⟨bx, 0, none⟩)]) from rfl] at k0
            have HB4 := Lib.hid (show Below wr.heap.size wr (wr.alloc (.cells #[(.func (.func 25) #[] #[.pointer (some ⟨bx, 0, none⟩)]), .int .i64 rf] 78)) from below_alloc (Below.refl _ _) _)
            have HY0 : Hid ((wr.alloc (.cells #[(.func (.func 25) #[] #[.pointer (some ⟨bx, 0, none⟩)]), .int .i64 rf] 78)).heap[wr.heap.size]? = some (.cells #[(.func (.func 25) #[] #[.pointer (some ⟨bx, 0, none⟩)]), .int .i64 rf] 78)) := Lib.hid (heap_alloc_new wr _)
            cases hkp : keepM M num ⟨2, rl, rf⟩ with
            | true =>
              rw [hkp] at hraw
              have CC := window_calls g (H.out.below ((HI.out.bel.mono (Nat.le_refl _)).trans (HB4.out.mono HI.out.bel.size))) (r := ⟨2, rl, rf⟩) (show Bo (wr.alloc (.cells #[(.func (.func 25) #[] #[.pointer (some ⟨bx, 0, none⟩)]), .int .i64 rf] 78)) bx ⟨2, rl, rf⟩ from (HB4.out.block _ (lt_heap hbx.out)).trans hbx.out) num
              rw [show closesM M num rl = true from hkp] at CC
              replace CC := Lib.hid CC
              clear hkp
              cases N2 with
              | false =>
                have HY := Lib.hid (show ys = xs ++ [minM M num + rf] by rw [hraw.out]; simp [spanN])
                have hbz := Lib.hid (show w.heap.size ≤ wr.heap.size from hwl)
                go_wp2_with (first
                  | (go_at_call 25; refine (CC.out).mono ?_; rintro e w5 ⟨rfl, hb5⟩; replace HI := Lib.hid (HI.out.below (HB4.out.trans (hb5.mono HB4.out.size))); obtain ⟨x0, x1, x2⟩ := HI.out.cells; dsimp only at x1 x2; have y1 := cell_of_row w5 wr.heap.size 1 _ _ (0, 0) ((hb5.block _ (lt_heap HY0.out)).trans HY0.out); replace y1 : w5.cell? { block := wr.heap.size, off := 1 } = some (.int .i64 rf) := y1; replace HB4 := Lib.hid (HB4.out.trans (hb5.mono HB4.out.size)); clear hb5)
                  | (at_builtin; refine wpList_append_any _ rfl _ _ 81 rfl w.heap.size 3 i0 _ 1 8 Tryd.underlying81 hi'.out hz0 hz1 hz2 rfl (by decide) _ _ _ rfl (World.ownsRow.alloc HI.out.own (.cells #[.int .i64 (minM M num + rf)] 3)) _ _ 1 1 _ rfl (reads_one (heap_alloc_new _ (.cells #[.int .i64 (minM M num + rf)] 3))) (by simp [Value.oneCell']) hx1.out.1 hx1.out.2 (Nat.le_trans HI.out.bel.size (by simp)) ?_; intro v6 w6 ho6 hg6 ha6; have HE := Lib.hid (mi_app HI.out ho6 hg6); clear ho6 hg6 ha6))
                go_roundw
                case rel => exact ⟨j + 1, by go_num, hj1.out, by rw [HYS.out, HY.out]; exact HE⟩
                case measure => simp [intOf]; omega
              | true =>
                obtain ⟨hN0, hN1⟩ := hN
                try dsimp only at hN0 hN1
                by_cases hmn : rf ≤ N1
                · have hmin : min rf N1 = rf := by omega
                  have hmd : decide (rf ≤ N1) = true := decide_eq_true hmn
                  have HY := Lib.hid (show ys = xs ++ [minM M num + rf] by rw [hraw.out]; simp [spanN, hmin])
                  have hbz := Lib.hid (show w.heap.size ≤ wr.heap.size from hwl)
                  go_wp2_with (first
                    | (go_at_call 25; refine (CC.out).mono ?_; rintro e w5 ⟨rfl, hb5⟩; replace HI := Lib.hid (HI.out.below (HB4.out.trans (hb5.mono HB4.out.size))); obtain ⟨x0, x1, x2⟩ := HI.out.cells; dsimp only at x1 x2; have y1 := cell_of_row w5 wr.heap.size 1 _ _ (0, 0) ((hb5.block _ (lt_heap HY0.out)).trans HY0.out); replace y1 : w5.cell? { block := wr.heap.size, off := 1 } = some (.int .i64 rf) := y1; replace HB4 := Lib.hid (HB4.out.trans (hb5.mono HB4.out.size)); clear hb5)
                    | (at_builtin; refine wpList_append_any _ rfl _ _ 81 rfl w.heap.size 3 i0 _ 1 8 Tryd.underlying81 hi'.out hz0 hz1 hz2 rfl (by decide) _ _ _ rfl (World.ownsRow.alloc HI.out.own (.cells #[.int .i64 (minM M num + rf)] 3)) _ _ 1 1 _ rfl (reads_one (heap_alloc_new _ (.cells #[.int .i64 (minM M num + rf)] 3))) (by simp [Value.oneCell']) hx1.out.1 hx1.out.2 (Nat.le_trans HI.out.bel.size (by simp)) ?_; intro v6 w6 ho6 hg6 ha6; have HE := Lib.hid (mi_app HI.out ho6 hg6); clear ho6 hg6 ha6))
                  go_roundw
                  case rel => exact ⟨j + 1, by go_num, hj1.out, by rw [HYS.out, HY.out]; exact HE⟩
                  case measure => simp [intOf]; omega
                · have hmin : min rf N1 = N1 := by omega
                  have hmd : decide (rf ≤ N1) = false := decide_eq_false hmn
                  have HY := Lib.hid (show ys = xs ++ [minM M num + N1] by rw [hraw.out]; simp [spanN, hmin])
                  have hbz := Lib.hid (show w.heap.size ≤ wr.heap.size from hwl)
                  go_wp2_with (first
                    | (go_at_call 25; refine (CC.out).mono ?_; rintro e w5 ⟨rfl, hb5⟩; replace HI := Lib.hid (HI.out.below (HB4.out.trans (hb5.mono HB4.out.size))); obtain ⟨x0, x1, x2⟩ := HI.out.cells; dsimp only at x1 x2; have y1 := cell_of_row w5 wr.heap.size 1 _ _ (0, 0) ((hb5.block _ (lt_heap HY0.out)).trans HY0.out); replace y1 : w5.cell? { block := wr.heap.size, off := 1 } = some (.int .i64 rf) := y1; replace HB4 := Lib.hid (HB4.out.trans (hb5.mono HB4.out.size)); clear hb5)
                    | (at_builtin; refine wpList_append_any _ rfl _ _ 81 rfl w.heap.size 3 i0 _ 1 8 Tryd.underlying81 hi'.out hz0 hz1 hz2 rfl (by decide) _ _ _ rfl (World.ownsRow.alloc HI.out.own (.cells #[.int .i64 (minM M num + N1)] 3)) _ _ 1 1 _ rfl (reads_one (heap_alloc_new _ (.cells #[.int .i64 (minM M num + N1)] 3))) (by simp [Value.oneCell']) hx1.out.1 hx1.out.2 (Nat.le_trans HI.out.bel.size (by simp)) ?_; intro v6 w6 ho6 hg6 ha6; have HE := Lib.hid (mi_app HI.out ho6 hg6); clear ho6 hg6 ha6))
                  go_roundw
                  case rel => exact ⟨j + 1, by go_num, hj1.out, by rw [HYS.out, HY.out]; exact HE⟩
                  case measure => simp [intOf]; omega
            | false =>
              rw [hkp] at hraw
              have CC := window_calls g (H.out.below ((HI.out.bel.mono (Nat.le_refl _)).trans (HB4.out.mono HI.out.bel.size))) (r := ⟨2, rl, rf⟩) (show Bo (wr.alloc (.cells #[(.func (.func 25) #[] #[.pointer (some ⟨bx, 0, none⟩)]), .int .i64 rf] 78)) bx ⟨2, rl, rf⟩ from (HB4.out.block _ (lt_heap hbx.out)).trans hbx.out) num
              rw [show closesM M num rl = false from hkp] at CC
              replace CC := Lib.hid CC
              clear hkp
              have HY := Lib.hid (show ys = xs by rw [hraw.out]; simp)
              go_wp2_with (go_at_call 25; refine (CC.out).mono ?_; rintro e w5 ⟨rfl, hb5⟩; replace HI := Lib.hid (HI.out.below (HB4.out.trans (hb5.mono HB4.out.size))); obtain ⟨x0, x1, x2⟩ := HI.out.cells; dsimp only at x1 x2; have y1 := cell_of_row w5 wr.heap.size 1 _ _ (0, 0) ((hb5.block _ (lt_heap HY0.out)).trans HY0.out); replace y1 : w5.cell? { block := wr.heap.size, off := 1 } = some (.int .i64 rf) := y1; replace HB4 := Lib.hid (HB4.out.trans (hb5.mono HB4.out.size)); clear hb5)
              go_roundw
              case rel => exact ⟨j + 1, by go_num, hj1.out, by rw [HYS.out, HY.out]; exact HI⟩
              case measure => simp [intOf]; omega
          · skip
            rw [show kfun ⟨rk, rl, rf⟩ bx = (.func (.func 27) #[] #[.pointer (some ⟨bx, 0, none⟩)]) from by unfold kfun; rw [if_neg hk1, if_neg hk2]] at k0
            have HB4 := Lib.hid (show Below wr.heap.size wr (wr.alloc (.cells #[(.func (.func 27) #[] #[.pointer (some ⟨bx, 0, none⟩)]), .int .i64 rf] 78)) from below_alloc (Below.refl _ _) _)
            have HY0 : Hid ((wr.alloc (.cells #[(.func (.func 27) #[] #[.pointer (some ⟨bx, 0, none⟩)]), .int .i64 rf] 78)).heap[wr.heap.size]? = some (.cells #[(.func (.func 27) #[] #[.pointer (some ⟨bx, 0, none⟩)]), .int .i64 rf] 78)) := Lib.hid (heap_alloc_new wr _)
            cases hkp : keepM M num ⟨rk, rl, rf⟩ with
            | true =>
              rw [hkp] at hraw
              have CC := gap_calls g (H.out.below ((HI.out.bel.mono (Nat.le_refl _)).trans (HB4.out.mono HI.out.bel.size))) (r := ⟨rk, rl, rf⟩) (show Bo (wr.alloc (.cells #[(.func (.func 27) #[] #[.pointer (some ⟨bx, 0, none⟩)]), .int .i64 rf] 78)) bx ⟨rk, rl, rf⟩ from (HB4.out.block _ (lt_heap hbx.out)).trans hbx.out) num
              rw [show quietM M num rl = true from (by have := hkp; unfold keepM at this; rw [if_neg hk1, if_neg hk2] at this; exact this)] at CC
              replace CC := Lib.hid CC
              clear hkp
              cases N2 with
              | false =>
                have HY := Lib.hid (show ys = xs ++ [minM M num + rf] by rw [hraw.out]; simp [spanN])
                have hbz := Lib.hid (show w.heap.size ≤ wr.heap.size from hwl)
                go_wp2_with (first
                  | (go_at_call 27; refine (CC.out).mono ?_; rintro e w5 ⟨rfl, hb5⟩; replace HI := Lib.hid (HI.out.below (HB4.out.trans (hb5.mono HB4.out.size))); obtain ⟨x0, x1, x2⟩ := HI.out.cells; dsimp only at x1 x2; have y1 := cell_of_row w5 wr.heap.size 1 _ _ (0, 0) ((hb5.block _ (lt_heap HY0.out)).trans HY0.out); replace y1 : w5.cell? { block := wr.heap.size, off := 1 } = some (.int .i64 rf) := y1; replace HB4 := Lib.hid (HB4.out.trans (hb5.mono HB4.out.size)); clear hb5)
                  | (at_builtin; refine wpList_append_any _ rfl _ _ 81 rfl w.heap.size 3 i0 _ 1 8 Tryd.underlying81 hi'.out hz0 hz1 hz2 rfl (by decide) _ _ _ rfl (World.ownsRow.alloc HI.out.own (.cells #[.int .i64 (minM M num + rf)] 3)) _ _ 1 1 _ rfl (reads_one (heap_alloc_new _ (.cells #[.int .i64 (minM M num + rf)] 3))) (by simp [Value.oneCell']) hx1.out.1 hx1.out.2 (Nat.le_trans HI.out.bel.size (by simp)) ?_; intro v6 w6 ho6 hg6 ha6; have HE := Lib.hid (mi_app HI.out ho6 hg6); clear ho6 hg6 ha6))
                go_roundw
                case rel => exact ⟨j + 1, by go_num, hj1.out, by rw [HYS.out, HY.out]; exact HE⟩
                case measure => simp [intOf]; omega
              | true =>
                obtain ⟨hN0, hN1⟩ := hN
                try dsimp only at hN0 hN1
                by_cases hmn : rf ≤ N1
                · have hmin : min rf N1 = rf := by omega
                  have hmd : decide (rf ≤ N1) = true := decide_eq_true hmn
                  have HY := Lib.hid (show ys = xs ++ [minM M num + rf] by rw [hraw.out]; simp [spanN, hmin])
                  have hbz := Lib.hid (show w.heap.size ≤ wr.heap.size from hwl)
                  go_wp2_with (first
                    | (go_at_call 27; refine (CC.out).mono ?_; rintro e w5 ⟨rfl, hb5⟩; replace HI := Lib.hid (HI.out.below (HB4.out.trans (hb5.mono HB4.out.size))); obtain ⟨x0, x1, x2⟩ := HI.out.cells; dsimp only at x1 x2; have y1 := cell_of_row w5 wr.heap.size 1 _ _ (0, 0) ((hb5.block _ (lt_heap HY0.out)).trans HY0.out); replace y1 : w5.cell? { block := wr.heap.size, off := 1 } = some (.int .i64 rf) := y1; replace HB4 := Lib.hid (HB4.out.trans (hb5.mono HB4.out.size)); clear hb5)
                    | (at_builtin; refine wpList_append_any _ rfl _ _ 81 rfl w.heap.size 3 i0 _ 1 8 Tryd.underlying81 hi'.out hz0 hz1 hz2 rfl (by decide) _ _ _ rfl (World.ownsRow.alloc HI.out.own (.cells #[.int .i64 (minM M num + rf)] 3)) _ _ 1 1 _ rfl (reads_one (heap_alloc_new _ (.cells #[.int .i64 (minM M num + rf)] 3))) (by simp [Value.oneCell']) hx1.out.1 hx1.out.2 (Nat.le_trans HI.out.bel.size (by simp)) ?_; intro v6 w6 ho6 hg6 ha6; have HE := Lib.hid (mi_app HI.out ho6 hg6); clear ho6 hg6 ha6))
                  go_roundw
                  case rel => exact ⟨j + 1, by go_num, hj1.out, by rw [HYS.out, HY.out]; exact HE⟩
                  case measure => simp [intOf]; omega
                · have hmin : min rf N1 = N1 := by omega
                  have hmd : decide (rf ≤ N1) = false := decide_eq_false hmn
                  have HY := Lib.hid (show ys = xs ++ [minM M num + N1] by rw [hraw.out]; simp [spanN, hmin])
                  have hbz := Lib.hid (show w.heap.size ≤ wr.heap.size from hwl)
                  go_wp2_with (first
                    | (go_at_call 27; refine (CC.out).mono ?_; rintro e w5 ⟨rfl, hb5⟩; replace HI := Lib.hid (HI.out.below (HB4.out.trans (hb5.mono HB4.out.size))); obtain ⟨x0, x1, x2⟩ := HI.out.cells; dsimp only at x1 x2; have y1 := cell_of_row w5 wr.heap.size 1 _ _ (0, 0) ((hb5.block _ (lt_heap HY0.out)).trans HY0.out); replace y1 : w5.cell? { block := wr.heap.size, off := 1 } = some (.int .i64 rf) := y1; replace HB4 := Lib.hid (HB4.out.trans (hb5.mono HB4.out.size)); clear hb5)
                    | (at_builtin; refine wpList_append_any _ rfl _ _ 81 rfl w.heap.size 3 i0 _ 1 8 Tryd.underlying81 hi'.out hz0 hz1 hz2 rfl (by decide) _ _ _ rfl (World.ownsRow.alloc HI.out.own (.cells #[.int .i64 (minM M num + N1)] 3)) _ _ 1 1 _ rfl (reads_one (heap_alloc_new _ (.cells #[.int .i64 (minM M num + N1)] 3))) (by simp [Value.oneCell']) hx1.out.1 hx1.out.2 (Nat.le_trans HI.out.bel.size (by simp)) ?_; intro v6 w6 ho6 hg6 ha6; have HE := Lib.hid (mi_app HI.out ho6 hg6); clear ho6 hg6 ha6))
                  go_roundw
                  case rel => exact ⟨j + 1, by go_num, hj1.out, by rw [HYS.out, HY.out]; exact HE⟩
                  case measure => simp [intOf]; omega
            | false =>
              rw [hkp] at hraw
              have CC := gap_calls g (H.out.below ((HI.out.bel.mono (Nat.le_refl _)).trans (HB4.out.mono HI.out.bel.size))) (r := ⟨rk, rl, rf⟩) (show Bo (wr.alloc (.cells #[(.func (.func 27) #[] #[.pointer (some ⟨bx, 0, none⟩)]), .int .i64 rf] 78)) bx ⟨rk, rl, rf⟩ from (HB4.out.block _ (lt_heap hbx.out)).trans hbx.out) num
              rw [show quietM M num rl = false from (by have := hkp; unfold keepM at this; rw [if_neg hk1, if_neg hk2] at this; exact this)] at CC
              replace CC := Lib.hid CC
              clear hkp
              have HY := Lib.hid (show ys = xs by rw [hraw.out]; simp)
              go_wp2_with (go_at_call 27; refine (CC.out).mono ?_; rintro e w5 ⟨rfl, hb5⟩; replace HI := Lib.hid (HI.out.below (HB4.out.trans (hb5.mono HB4.out.size))); obtain ⟨x0, x1, x2⟩ := HI.out.cells; dsimp only at x1 x2; have y1 := cell_of_row w5 wr.heap.size 1 _ _ (0, 0) ((hb5.block _ (lt_heap HY0.out)).trans HY0.out); replace y1 : w5.cell? { block := wr.heap.size, off := 1 } = some (.int .i64 rf) := y1; replace HB4 := Lib.hid (HB4.out.trans (hb5.mono HB4.out.size)); clear hb5)
              go_roundw
              case rel => exact ⟨j + 1, by go_num, hj1.out, by rw [HYS.out, HY.out]; exact HI⟩
              case measure => simp [intOf]; omega
      · obtain rfl : j = ks.length := by omega
        simp only [List.take_length] at HI ⊢
        have hlr : (raw M num (N1, N2) (ks.map (·.1))).length ≤ 16 := Nat.le_trans (raw_len _ _ _ _) (by rw [List.length_map]; omega)
        have hml := List.length_mergeSort (le := fun x y : Int => decide (x ≤ y)) (raw M num (N1, N2) (ks.map (·.1)))
        have hcl : (Lib.compact ((raw M num (N1, N2) (ks.map (·.1))).mergeSort fun x y => decide (x ≤ y))).length ≤ ((raw M num (N1, N2) (ks.map (·.1))).mergeSort fun x y => decide (x ≤ y)).length := comp_le _
        have SC := Lib.hid (sort_own HI.out.own (by omega))
        have CC := Lib.hid (fun (W : World) (h : W.ownsRow w.heap.size 3 1 (.slice A9 (raw M num (N1, N2) (ks.map (·.1))).length c9) (raw M num (N1, N2) (ks.map (·.1))).length (((raw M num (N1, N2) (ks.map (·.1))).mergeSort fun x y => decide (x ≤ y)).map (Value.int .i64))) => compact_own (xs := (raw M num (N1, N2) (ks.map (·.1))).mergeSort fun x y => decide (x ≤ y)) (by rw [hml]; exact h) (by omega) hcl)
        clear hml hcl hlr hf
        generalize raw M num (N1, N2) (ks.map (·.1)) = xs at *
        go_wp2_with (first
          | (go_at_call 49; refine SC.out.mono ?_; rintro e w6 ⟨rfl, hr6, hg6⟩; have hb6 := Lib.hid (HI.out.bel.grown hg6 HI.out.bel.size (fun k e => own_base HI.out.own k e)); replace hr6 := Lib.hid hr6; clear hg6)
          | (go_at_call 50; refine (CC.out _ hr6.out).mono ?_; rintro e w7 ⟨v7, rfl, hr7, hg7⟩; have hb7 := Lib.hid (hb6.out.grown hg7 hb6.out.size (fun k e => own_base hr6.out k e)); replace hr7 := Lib.hid hr7; clear hg7))
        go_ret
        exact ⟨v7, rfl, by rw [e1.out]; exact hr7.out, hb7.out⟩
end Go.Proofs.YtonlbeonblpblaaDoor.A36
namespace Go.Proofs.YtonlbeonblpblaaDoor.A36
open Go.RowKit Go.Proofs.YtonlbeonblpblaaDoorW.PrintWords Go.Proofs.YtonlbeonblpblaaDoorW.PrintLast Go.Proofs.YtonlbeonblpblaaDoorW.PrintMore Go.Proofs.YtonlbeonblpblaaDoor.Wd
set_option linter.unusedVariables false
set_option linter.unusedSimpArgs false
private theorem ymTill (motive : Option Value → Sort _) (h1 : (b : Bool) → motive (some (.bool b))) (h2 : (x : Option Value) → motive x) : Go.yielded.match_1 motive (some undef) h1 h2 = h2 (some undef) := rfl
attribute [local go_sem, local simp] ymTill
def tillF (M : List It) (num : Int) (N : Int × Bool) (rs : List Ru) : Int := (minsF M num N rs).getLastD 0
def staysF (M : List It) (num : Int) (N : Int × Bool) (rs : List Ru) (now : Int) : Bool := hit M num && decide (now < tillF M num N rs)
theorem mins_len (M : List It) (num : Int) (N : Int × Bool) (rs : List Ru) : (minsF M num N rs).length ≤ rs.length := by
  unfold minsF
  split
  · refine Nat.le_trans (comp_le _) ?_
    rw [List.length_mergeSort]
    exact raw_len M num N rs
  · simp
theorem last_get (xs : List Int) (h : 0 < xs.length) : xs.getLastD 0 = xs[xs.length - 1] := by
  cases xs with
  | nil => exact absurd h (Nat.lt_irrefl _)
  | cons x xs => rw [List.getLastD_cons, ← List.getLast_eq_getLastD (h := by simp)]; exact List.getLast_eq_getElem _
theorem last_none (xs : List Int) (h : ¬ 0 < xs.length) : xs.getLastD 0 = 0 := by
  have : xs = [] := List.eq_nil_of_length_eq_zero (by omega)
  rw [this]
  rfl
set_option maxRecDepth 100000 in
set_option maxHeartbeats 2000000 in
theorem till_calls {M : List It} (g : Good M) {A Ak : Option Addr} {base kb b c ck : Nat} {w : World} {ks : List (Ru × Nat)} {N : Int × Bool} (h : TAt w base b A c M) (hk : KAt w kb Ak ck ks) (hl : ks.length ≤ 16) (hf : ∀ p ∈ ks, 0 ≤ p.1.f ∧ p.1.f ≤ 1073741824) (hN : 0 ≤ N.1 ∧ N.1 ≤ 1073741824) (num : Int) :
    Calls Tryd.prog 11 #[.agg #[.slice Ak ks.length ck, .int .i64 N.1, .bool N.2], .pointer (some ⟨b, 0, none⟩), .int .u64 num] w fun e w' => e = .returned (.int .i64 (tillF M num N (ks.map (·.1)))) ∧ Below w.heap.size w w' := by
  have hb0 := below_alloc (Below.refl w.heap.size w) (.cells #[.slice Ak ks.length ck, .int .i64 N.1, .bool N.2] 34)
  have MC := Lib.hid (mins_calls g (h.below hb0) (hk.below hb0) hl hf hN num)
  have hml : (minsF M num N (ks.map (·.1))).length ≤ 16 := Nat.le_trans (mins_len _ _ _ _) (by rw [List.length_map]; exact hl)
  have e1 := Lib.hid (show tillF M num N (ks.map (·.1)) = (minsF M num N (ks.map (·.1))).getLastD 0 from rfl)
  have HB0 := Lib.hid hb0
  clear h hk hf hb0
  unfold MinsPost at MC
  generalize minsF M num N (ks.map (·.1)) = xs at *
  by_cases h0 : 0 < xs.length
  · have e2 := Lib.hid (last_get xs h0)
    have hlt : xs.length - 1 < xs.length := by omega
    have d1 : IntKind.i64.wrap ((xs.length : Int) - 1) = (xs.length : Int) - 1 := IntWalk.i64_in _ (by omega)
    have hnn : ((xs.length : Int) - 1).toNat = xs.length - 1 := by omega
    have hz : ((xs.length : Int) == 0) = false := beq_eq_false_iff_ne.2 (by omega)
    go_enter Tryd.func11, Tryd.ntmps11
    go_wp2_with (go_at_call 34; refine MC.out.mono ?_; rintro e w3 ⟨v3, rfl, ho3, hb3⟩; obtain ⟨A3, c3, rfl, hc3⟩ := own_slice_cap ho3; obtain ⟨q3, rfl, hq3⟩ := own_cell ho3 hlt; generalize xs[xs.length - 1] = y at *; replace hb3 := Lib.hid (HB0.out.trans (hb3.mono HB0.out.size)); clear ho3)
    go_ret
    exact ⟨by rw [e1.out, e2.out]; rfl, hb3.out⟩
  · have e2 := Lib.hid (last_none xs h0)
    have hz : ((xs.length : Int) == 0) = true := beq_iff_eq.2 (by omega)
    go_enter Tryd.func11, Tryd.ntmps11
    go_wp2_with (go_at_call 34; refine MC.out.mono ?_; rintro e w3 ⟨v3, rfl, ho3, hb3⟩; obtain ⟨A3, c3, rfl, hc3⟩ := own_slice_cap ho3; replace hb3 := Lib.hid (HB0.out.trans (hb3.mono HB0.out.size)); clear ho3)
    go_ret
    exact ⟨by rw [e1.out, e2.out]; rfl, hb3.out⟩
set_option maxRecDepth 100000 in
theorem never_calls (Ak : Option Addr) (nk ck : Nat) (N : Int × Bool) (w : World) :
    Calls Tryd.prog 10 #[.agg #[.slice Ak nk ck, .int .i64 N.1, .bool N.2]] w fun e w' => e = .returned (.tuple #[.int .i64 N.1, .bool N.2]) ∧ Below w.heap.size w w' := by
  obtain ⟨N1, N2⟩ := N
  go_enter Tryd.func10, Tryd.ntmps10
  go_wp2
  go_quiet (fail)
  go_wp2
  go_ret2
  exact ⟨rfl, pw_below_drewN (below_alloc (Below.refl _ _) _) _⟩
end Go.Proofs.YtonlbeonblpblaaDoor.A36
