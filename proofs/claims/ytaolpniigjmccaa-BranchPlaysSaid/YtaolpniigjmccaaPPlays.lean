/-
  The law BranchPlays's walk: it tells true of every input. Condition: the arguments read as Go's data do.
-/
import Derived.Test.YtaolpniigjmccaaPMidP
import Derived.Test.YtaolpniigjmccaaPRefB
import Derived.Test.YtaolpniigjmccaaNone
namespace Go.Proofs.Ytaolpniigjmccaa.All
open Go.RowKit Go.Proofs.YtaolpniigjmccaaW.PrintWords Go.Proofs.YtaolpniigjmccaaW.PrintLast Go.Proofs.YtaolpniigjmccaaW.PrintMore Go.Proofs.Ytaolpniigjmccaa.Wd
set_option linter.unusedVariables false
set_option linter.unusedSimpArgs false
private theorem ym (motive : Option Value → Sort _) (h1 : (b : Bool) → motive (some (.bool b))) (h2 : (x : Option Value) → motive x) : Go.yielded.match_1 motive (some undef) h1 h2 = h2 (some undef) := rfl
attribute [local go_sem, local simp] ym
attribute [local go_sem] Oper.semAt_some
/-- What the law keeps: both forests, the result's box r, the box p that holds the document's forest. -/
structure St3 (w wr : World) (b g r p : Nat) (F : List Tw) : Prop where
  two : Two wr b g F
  res : wr.heap[r]? = some (.cells #[.bool false] 4)
  px : wr.heap[p]? = some (.cells #[.pointer (some ⟨g, 0, none⟩)] 44)
  bel : Below w.heap.size w wr
  lor : w.heap.size ≤ r
  lob : w.heap.size ≤ b
  log : w.heap.size ≤ g
theorem St3.below {w wr w2 : World} {b g r p : Nat} {F : List Tw} (h : St3 w wr b g r p F) (hb : Below wr.heap.size wr w2) : St3 w w2 b g r p F :=
  ⟨h.two.below hb, (hb.block r (Array.getElem?_eq_some_iff.1 h.res).1).trans h.res, (hb.block p (Array.getElem?_eq_some_iff.1 h.px).1).trans h.px, h.bel.trans (hb.mono h.bel.size), h.lor, h.lob, h.log⟩
theorem heap_ne {w : World} {i j : Nat} {a c : Obj} (h1 : w.heap[i]? = some a) (h2 : w.heap[j]? = some c) (hne : a ≠ c) : i ≠ j := by
  rintro rfl
  rw [h1] at h2
  injection h2 with h2
  exact hne h2
theorem St3.chg {w wr w2 : World} {b g r p : Nat} {F F2 : List Tw} (h : St3 w wr b g r p F) (hc : Chg (fun q => q = b ∨ q = g) wr w2) (ht : Two w2 b g F2) : St3 w w2 b g r p F2 := by
  obtain ⟨A, c, hx⟩ := h.two.x
  have e1 := heap_ne h.res h.two.f.2 (by simp)
  have e2 := heap_ne h.res hx.head (by simp)
  have e3 := heap_ne h.px h.two.f.2 (by simp)
  have e4 := heap_ne h.px hx.head (by simp)
  exact ⟨ht, hc.old h.res (fun e => e.elim e1 e2), hc.old h.px (fun e => e.elim e3 e4), hc.below h.bel h.bel.size (fun k e => e.elim (fun e => e ▸ h.lob) (fun e => e ▸ h.log)), h.lor, h.lob, h.log⟩
/-- And a copy of both. -/
structure St4 (w wr : World) (b g r p q1 q2 : Nat) (F G : List Tw) : Prop where
  s : St3 w wr b g r p F
  k : Two wr q1 q2 G
  n1 : q1 ≠ b
  n2 : q2 ≠ g
theorem St4.below {w wr w2 : World} {b g r p q1 q2 : Nat} {F G : List Tw} (h : St4 w wr b g r p q1 q2 F G) (hb : Below wr.heap.size wr w2) : St4 w w2 b g r p q1 q2 F G := ⟨h.s.below hb, h.k.below hb, h.n1, h.n2⟩
theorem St4.chg {w wr w2 : World} {b g r p q1 q2 : Nat} {F F2 G : List Tw} (h : St4 w wr b g r p q1 q2 F G) (hc : Chg (fun q => q = b ∨ q = g) wr w2) (ht : Two w2 b g F2) : St4 w w2 b g r p q1 q2 F2 G := by
  obtain ⟨A, c, hx⟩ := h.s.two.x
  obtain ⟨A', c', hk⟩ := h.k.x
  refine ⟨h.s.chg hc ht, ⟨h.k.f.chg hc (fun e => e.elim h.n1 (hx.apart h.k.f)), ⟨A', c', hk.chg hc (fun e => e.elim (fun e => (hk.apart h.s.two.f) e.symm) h.n2) (fun blk cs hb e => ?_)⟩⟩, h.n1, h.n2⟩
  rcases e with e | e
  · exact heap_ne hb h.s.two.f.2 (by simp) e
  · exact heap_ne hb hx.head (by simp) e
theorem St3.alike {w wr : World} {b g r p : Nat} {F : List Tw} (h : St3 w wr b g r p F) (ok : Ok F) (id m : Int) :
    Calls Try.prog 22 #[.pointer (some ⟨b, 0, none⟩), .pointer (some ⟨g, 0, none⟩), .int .i64 id, .int .u64 m] wr fun e w' => e = .returned (.bool true) ∧ Below wr.heap.size wr w' :=
  let ⟨A, c, hx⟩ := h.two.x; alike_is ok h.two.f hx id m
theorem St4.alike {w wr : World} {b g r p q1 q2 : Nat} {F G : List Tw} (h : St4 w wr b g r p q1 q2 F G) (ok : Ok G) (id m : Int) :
    Calls Try.prog 22 #[.pointer (some ⟨q1, 0, none⟩), .pointer (some ⟨q2, 0, none⟩), .int .i64 id, .int .u64 m] wr fun e w' => e = .returned (.bool true) ∧ Below wr.heap.size wr w' :=
  let ⟨A, c, hx⟩ := h.k.x; alike_is ok h.k.f hx id m
theorem St3.pc {w wr : World} {b g r p : Nat} {F : List Tw} (h : St3 w wr b g r p F) : wr.cell? { block := p, off := 0 } = some (.pointer (some ⟨g, 0, none⟩)) := cell_of_row wr p 0 _ _ (0, 0) h.px
theorem ActAt.below {w w' : World} {ad : Addr} {i : Nat} {a : Ac} {B : Nat} (h : ActAt w ad i a) (hb : Below B w w') (hB : (ad.add (i * 5)).block < B) : ActAt w' ad i a :=
  ⟨(hb.cell hB).trans h.c0, (hb.cell (p := { block := (ad.add (i * 5)).block, off := (ad.add (i * 5)).off + 1 }) hB).trans h.c1, (hb.cell (p := { block := (ad.add (i * 5)).block, off := (ad.add (i * 5)).off + 2 }) hB).trans h.c2, (hb.cell (p := { block := (ad.add (i * 5)).block, off := (ad.add (i * 5)).off + 3 }) hB).trans h.c3, (hb.cell (p := { block := (ad.add (i * 5)).block, off := (ad.add (i * 5)).off + 4 }) hB).trans h.c4⟩
theorem St3.bases {w wr : World} {b g r p : Nat} {F : List Tw} (h : St3 w wr b g r p F) :
    Calls Try.prog 18 #[.pointer (some ⟨b, 0, none⟩)] wr fun e w' => ∃ A c, e = .returned (.slice A (basesF F).length c) ∧ Reads w' w'.heap.size 1 A (basesF F).length ((basesF F).map (Value.int .u64)) ∧ Below wr.heap.size wr w' :=
  (bases_calls b F wr h.two.f).mono fun e w' ⟨v, he, ho, hb⟩ => by
    obtain ⟨A, c, rfl⟩ := own_slice ho
    exact ⟨A, c, he, Reads.of_own ho, hb⟩
theorem St3.rbases {w wr : World} {b g r p : Nat} {F : List Tw} (h : St3 w wr b g r p F) (ok : Ok F) :
    Calls Try.prog 27 #[.pointer (some ⟨g, 0, none⟩)] wr fun e w' => ∃ A c, e = .returned (.slice A (basesF F).length c) ∧ Reads w' w'.heap.size 1 A (basesF F).length ((basesF F).map (Value.int .u64)) ∧ Below wr.heap.size wr w' := by
  obtain ⟨A, c, hx⟩ := h.two.x
  refine (rbases_calls hx (refL_len F)).mono fun e w' ⟨v, he, ho, hb⟩ => ?_
  rw [bases_ref ok] at ho
  obtain ⟨A, c, rfl⟩ := own_slice ho
  exact ⟨A, c, he, Reads.of_own ho, hb⟩
theorem St3.rfree {w wr : World} {b g r p : Nat} {F : List Tw} (h : St3 w wr b g r p F) (ok : Ok F) (k : Nat) (hr : k ≤ 16) (hl : ∀ j : Nat, j < k → aliveF F (j : Int) = true) (hn : k < 16 → aliveF F (k : Int) = false) :
    Calls Try.prog 26 #[.pointer (some ⟨g, 0, none⟩)] wr fun e w' => e = .returned (.int .i64 k) ∧ wr = w' :=
  let ⟨A, c, hx⟩ := h.two.x; rfree_calls ok hx k hr hl hn
/-- The least that is free, or none, as both tell. -/
structure FreeV (F : List Tw) (k : Nat) (fn : Int) (fo : Bool) : Prop where
  le : k ≤ 16
  all : ∀ j : Nat, j < k → aliveF F (j : Int) = true
  no : k < 16 → aliveF F (k : Int) = false
  calls : ∀ (b : Nat) (W : World), At W b 69 F → Calls Try.prog 23 #[.pointer (some ⟨b, 0, none⟩)] W fun e w' => e = .returned (.tuple #[.int .i64 fn, .bool fo]) ∧ Below W.heap.size W w'
theorem free_any (F : List Tw) : (∃ k : Nat, k < 16 ∧ FreeV F k k true) ∨ FreeV F 16 0 false := by
  rcases least_free F 16 with ⟨k, h1, h2, h3⟩ | h
  · have hk : 1 ≤ k := by
      rcases Nat.eq_zero_or_pos k with e | e
      · subst e
        exact absurd h3 (by unfold aliveF inR; simp)
      · exact e
    have e : ∀ j : Nat, 1 ≤ j → j < 16 → aliveF F (j : Int) = (tw F (j : Int)).a := fun j h1 h2 => alive_in (by omega) (by omega) (by omega)
    refine .inl ⟨k, h1, by omega, h2, fun _ => h3, fun b W h => free_yes F b k W h ⟨hk, h1, ?_, fun j hj1 hj2 => ?_⟩⟩
    · rw [← e k hk h1]; exact h3
    · rw [← e j hj1 (by omega)]; exact h2 j hj2
  · refine .inr ⟨Nat.le_refl _, h, fun h => absurd h (Nat.lt_irrefl _), fun b W hA => free_no F b W hA fun j hj1 hj2 => ?_⟩
    have := h j hj2
    rwa [alive_in (by omega) (by omega) (by omega)] at this
/-- What a round over all keeps: the box where it stands. -/
structure RI (w0 : World) (aB : Nat) (F : List Tw) (pre : List Int) (W : World) : Prop where
  ex : ∃ a : Nat, Boxed W aB 3 (.int .i64 a) ∧ a ≤ 16 ∧ (pre <+: aliveL F 16 → atOf pre = a)
  chg : Chg (· = aB) w0 W
theorem ri_own {w0 : World} {aB : Nat} {F : List Tw} (h0 : aB < w0.heap.size) : OwnFrom w0.heap.size (RI w0 aB F) := fun pre X Y row h hg hr => by
  have hs := h.chg.size
  refine ⟨?_, hg.os.trans h.chg.os, hg.tape.trans h.chg.tape, hg.output.trans h.chg.output, Nat.le_trans h.chg.size hg.size, fun k hk hn => ?_⟩
  · obtain ⟨a, h1, h2⟩ := h.ex
    exact ⟨a, (hg.block aB (by omega) (fun e => by have := (hr _ e.symm).1; omega)).trans h1, h2⟩
  · exact (hg.block k (by omega) (fun e => by have := (hr _ e.symm).1; omega)).trans (h.chg.block k hk hn)
theorem St3.over {w w0 W : World} {b g r p aB : Nat} {F : List Tw} (h : St3 w w0 b g r p F) (hc : Chg (· = aB) w0 W) (hA : ∃ v, w0.heap[aB]? = some (.cells #[v] 3)) (hl : w.heap.size ≤ aB) : St3 w W b g r p F := by
  obtain ⟨v, hA⟩ := hA
  obtain ⟨A, c, hx⟩ := h.two.x
  exact ⟨⟨h.two.f.chg hc (heap_ne h.two.f.2 hA (by simp)), A, c, hx.chg hc (heap_ne hx.head hA (by simp)) (fun blk cs hb => heap_ne hb hA (by simp))⟩, hc.old h.res (heap_ne h.res hA (by simp)), hc.old h.px (heap_ne h.px hA (by simp)), hc.below h.bel h.bel.size (fun k e => e ▸ hl), h.lor, h.lob, h.log⟩
theorem St3.alive {w wr : World} {b g r p : Nat} {F : List Tw} (h : St3 w wr b g r p F) (ok : Ok F) (id : Int) :
    Calls Try.prog 29 #[.pointer (some ⟨g, 0, none⟩), .int .i64 id] wr fun e w' => e = .returned (.bool (aliveF F id)) ∧ wr = w' :=
  let ⟨A, c, hx⟩ := h.two.x; ralive_is ok hx id
theorem boxed_set {w : World} {B : Nat} {t : TypeId} {v : Value} (h : Boxed w B t v) (u : Value) : Boxed (w.setCell { block := B, off := 0 } u) B t u := by
  have h : w.heap[B]? = some (.cells #[v] t) := h
  show _ = _
  simp [World.setCell, Array.getElem?_modify, h]
theorem not_next {F : List Tw} {pre : List Int} {x : Int} {a k : Nat} (hp : pre <+: aliveL F 16 → atOf pre = a) (hN : ∀ j : Nat, a ≤ j → j < k → aliveF F (j : Int) = false) (hk : k = 16 ∨ (aliveF F (k : Int) = true ∧ x ≠ (k : Int))) (hak : a ≤ k) : ¬ (pre ++ [x]) <+: aliveL F 16 := fun h => by
  obtain ⟨y, h1, h2, h3, a2, h4, h5, h6⟩ := next_alive F 16 h
  rw [hp ((List.prefix_append pre [x]).trans h)] at h4
  obtain rfl : a = a2 := by omega
  have h7 : ¬ y < k := fun e => by rw [hN y h5 e] at h3; cases h3
  rcases hk with rfl | ⟨e1, e2⟩
  · omega
  · rcases Nat.lt_or_ge k y with e | e
    · rw [h6 k hak e] at e1; cases e1
    · exact e2 (by rw [h2]; omega)
theorem keeps_of_chg {B aB : Nat} {W W' : World} (h : Chg (· = aB) W W') (hB : aB < B) : KeepsFrom B W W' :=
  ⟨h.size, fun k o hk ho _ => h.old ho (by show k ≠ aB; omega)⟩
set_option maxRecDepth 100000 in
set_option maxHeartbeats 4000000 in
theorem plays_in (n : Nat) (hn : 3 ≤ n) (A0 : Option Addr) (c0 : Nat) (l : List Ac) (id m : Int) (w : World) (hr : Kd.C kAc w A0 l.length l) (hwf : ∀ a ∈ l, ActWf a) (hl30 : l.length ≤ 30) :
    CallsIn Fence.wide n Try.prog 8 #[.slice A0 l.length c0, .int .i64 id, .int .u64 m] w fun e w' => e = .returned (.bool true) ∧ Below w.heap.size w w' := by
  have HR := Lib.hid hr
  have HWF := Lib.hid hwf
  have HN := Lib.hid hn
  clear hr hwf hn
  have hll : ¬ (30 < l.length) := by omega
  have hdl : decide ((30 : Int) < (l.length : Int)) = false := decide_eq_false (by omega)
  refine callsIn_of_wp_marks Try.func8 rfl trivial ?_ rfl
  refine wpIn_wide.2 ?_
  simp only [Try.ntmps8, List.size_toArray, List.length_cons, List.length_nil, Nat.reduceAdd, Nat.reduceSub, Array.replicate_succ, Array.replicate_zero, List.push_toArray, List.append_toArray, List.nil_append, List.cons_append]
  go_upto_region 5 with (go_at_call 10; refine (awake_calls _).mono ?_; rintro e w1 ⟨rfl, hb1⟩; have hr1 := (hb1.block w.heap.size (by simp)).trans (heap_alloc_new w (.cells #[.bool false] 4)); replace hb1 := Lib.hid hb1; replace hr1 := Lib.hid hr1)
  have hB1 := Lib.hid (below_alloc (Below.refl _ w) (.cells #[.bool false] 4) |>.trans (hb1.out.mono (by simp)))
  clear hb1
  go_upto_region 6 with (go_at_call 11; refine (new_calls _).mono ?_; rintro e w2 ⟨rfl, hA2, hb2⟩; have hr2 := Lib.hid ((hb2.block w.heap.size (Array.getElem?_eq_some_iff.1 hr1.out).1).trans hr1.out); have hB2 := Lib.hid (hB1.out.trans (hb2.mono hB1.out.size)); have hlb := hA2.lt; have hlw := hB1.out.size; have hlr := (Array.getElem?_eq_some_iff.1 hr1.out).1; replace hA2 := Lib.hid hA2; clear hb2)
  have HI : Hid (St3 w ((w2.alloc (.cells #[.slice none 0 0] 47)).alloc (.cells #[.pointer (some ⟨w2.heap.size, 0, none⟩)] 44)) w1.heap.size w2.heap.size w.heap.size (w2.heap.size + 1) newF) := by
    have hX : Below w2.heap.size w2 ((w2.alloc (.cells #[.slice none 0 0] 47)).alloc (.cells #[.pointer (some ⟨w2.heap.size, 0, none⟩)] 44)) := below_alloc (below_alloc (Below.refl _ _) _) _
    refine Lib.hid ⟨⟨hA2.out.below hX, none, 0, xat_new (blk_alloc (heap_alloc_new w2 _) _)⟩, ?_, ?_, hB2.out.trans (hX.mono hB2.out.size), Nat.le_refl _, hlw, hB2.out.size⟩
    · exact (hX.block _ (by have := hA2.out.lt; omega)).trans hr2.out
    · have := heap_alloc_new (w2.alloc (.cells #[.slice none 0 0] 47)) (.cells #[.pointer (some ⟨w2.heap.size, 0, none⟩)] 44)
      rwa [World.size_alloc] at this
  clear hA2 hr2 hr1 hB2 hB1 hlb hlw hlr
  obtain ⟨b, hb⟩ : ∃ b, w1.heap.size = b := ⟨_, rfl⟩
  obtain ⟨g, hg⟩ : ∃ g, w2.heap.size = g := ⟨_, rfl⟩
  obtain ⟨r, hr⟩ : ∃ r, w.heap.size = r := ⟨_, rfl⟩
  rw [hb, hg] at HI
  rw [hb, hg]
  obtain ⟨p, hp⟩ : ∃ p, g + 1 = p := ⟨_, rfl⟩
  rw [hp] at HI
  rw [hp]
  clear hb hg hp
  have HRR := Lib.hid hr
  rw [hr] at HI
  rw [hr]
  clear hr
  go_wp2
  go_loopw [9] (fun v9 wr => ∃ k : Nat, v9 = .int .i64 k ∧ k ≤ l.length ∧ Hid (St3 w wr b g r p (playF newF (l.take k)))) (fun v9 _ => l.length - (intOf v9).toNat)
  case atStart => exact ⟨0, rfl, Nat.zero_le _, HI⟩
  case round =>
    clear HI
    obtain ⟨k, rfl, hk, HI⟩ := hrel
    have OK := Lib.hid (ok_take (fun a ha => (wf_u64 (HWF.out a ha).2.2.2.2).2) k)
    by_cases hlt : k < l.length
    · obtain ⟨ad, hA0, hA⟩ := act_at HR.out HI.out.bel hlt
      have HAT := Lib.hid (fun (W : World) (hb : Below w.heap.size w W) => (by
        obtain ⟨ad2, e, h⟩ := act_at HR.out hb hlt
        rw [hA0] at e
        injection e with e
        subst e
        exact h : ActAt W ad k l[k]))
      subst hA0
      clear hA
      have HP := Lib.hid (play_take hlt newF)
      have OK2 := Lib.hid (ok_take (fun a ha => (wf_u64 (HWF.out a ha).2.2.2.2).2) (k + 1))
      rw [HP.out] at OK2
      have hk1 := Lib.hid (show k + 1 ≤ l.length by omega)
      have hpc := HI.out.pc
      have hf := Lib.hid HI.out.two.f
      obtain ⟨Ax, cx, hx⟩ := HI.out.two.x
      have hxl := refL_len (playF newF (l.take k))
      replace hx := Lib.hid hx
      generalize playF newF (l.take k) = F at *
      generalize l[k] = y at *
      go_upto_region 9 with fail
      go_region_held3 (fun w' => w'.cell? { block := p, off := 0 } = some (.pointer (some ⟨g, 0, none⟩))) (first | exact hpc | exact hpc2 | exact hpc1)
        ((first
          | (go_at_call 24
             refine (clone_calls F b _ (by exact hf.out)).mono ?_
             rintro e w3 ⟨rfl, hA3, hb3⟩
             have hpc1 := (HI.out.below (w2 := w3) ((below_drew (Below.refl _ _)).trans hb3)).pc
             have hx3 := Lib.hid (hx.out.below (w2 := w3) ((below_drew (Below.refl _ _)).trans hb3))
             replace hA3 := Lib.hid hA3
             replace hb3 := Lib.hid hb3)
          | (go_at_call 25
             refine (rcopy_calls (by exact hx3.out) hxl).mono ?_
             rintro e w4 ⟨q2, rfl, hq2, hx4, hb4⟩
             have hpc2 := (HI.out.below (w2 := w4) (((below_drew (Below.refl _ _)).trans hb3.out).trans (hb4.mono hb3.out.size))).pc
             replace hx4 := Lib.hid hx4
             replace hq2 := Lib.hid hq2
             replace hb4 := Lib.hid hb4)))
      have H4 : Hid (St4 w w4 b g r p wr.heap.size q2 F F) := Lib.hid ⟨HI.out.below (((below_drew (Below.refl _ _)).trans hb3.out).trans (hb4.out.mono hb3.out.size)), ⟨hA3.out.below hb4.out, hx4.out⟩, Nat.ne_of_gt HI.out.two.f.lt, Nat.ne_of_gt (Nat.lt_of_lt_of_le hx.out.lt (Nat.le_trans hb3.out.size hq2.out))⟩
      clear hA3 hx4 hb3 hb4 hq2 hx hf hx3 HI hpc hpc1 hpc2
      generalize wr.heap.size = q1 at *
      have hS0 := And.intro H4.out.s.pc (let h := HAT.out w4 H4.out.s.bel; And.intro h.c0 (And.intro h.c1 (And.intro h.c2 (And.intro h.c3 h.c4))))
      have DC := Lib.hid (fun (W : World) (h : St4 w W b g r p q1 q2 F F) => do_is OK.out h.s.two y)
      go_upto_region 10 with fail
      go_region_held3 (fun w' => w'.cell? { block := p, off := 0 } = some (.pointer (some ⟨g, 0, none⟩)) ∧ w'.cell? (ad.add (k * 5)) = some (.bool y.d) ∧ w'.cell? { block := (ad.add (k * 5)).block, off := (ad.add (k * 5)).off + 1 } = some (.int .i64 y.id) ∧ w'.cell? { block := (ad.add (k * 5)).block, off := (ad.add (k * 5)).off + 2 } = some (.int .i64 y.p) ∧ w'.cell? { block := (ad.add (k * 5)).block, off := (ad.add (k * 5)).off + 3 } = some (.int .u64 y.b) ∧ w'.cell? { block := (ad.add (k * 5)).block, off := (ad.add (k * 5)).off + 4 } = some (.int .u64 y.n)) (first | exact hS0 | exact hS1)
        ((go_at_call 17
          refine (DC.out _ (by exact H4.out.below (below_drew (Below.refl _ _)))).mono ?_
          rintro e w5 ⟨kk, rfl, ht, hc⟩
          have H5 := Lib.hid ((H4.out.below (below_drew (Below.refl _ _))).chg hc ht)
          have hS1 := And.intro H5.out.s.pc (let h := HAT.out w5 H5.out.s.bel; And.intro h.c0 (And.intro h.c1 (And.intro h.c2 (And.intro h.c3 h.c4))))
          clear ht hc))
      clear hS0 H4 DC
      have hS0 := And.intro hS1.1 hS1.2.2.1
      clear hS1
      have hkk : (kk == kk) = true := by simp
      go_upto_region 11 with fail
      have AL := Lib.hid (fun (W : World) (x1 x2 : Nat) (hx : (x1 = b ∧ x2 = g) ∨ (x1 = q1 ∧ x2 = q2)) (h : St4 w W b g r p q1 q2 (actF F y) F) => (by
        rcases hx with ⟨rfl, rfl⟩ | ⟨rfl, rfl⟩
        · exact h.s.alike OK2.out y.id m
        · exact h.alike OK.out y.id m : Calls Try.prog 22 #[.pointer (some ⟨x1, 0, none⟩), .pointer (some ⟨x2, 0, none⟩), .int .i64 y.id, .int .u64 m] W fun e w' => e = .returned (.bool true) ∧ Below W.heap.size W w'))
      have H6 := Lib.hid (H5.out.below (below_drew (Below.refl _ _)))
      have hS1 := hS0
      go_region_held3 (fun w' => w'.cell? { block := p, off := 0 } = some (.pointer (some ⟨g, 0, none⟩)) ∧ w'.cell? { block := (ad.add (k * 5)).block, off := (ad.add (k * 5)).off + 1 } = some (.int .i64 y.id)) (first | exact hS1)
        ((go_at_call 22
          refine (AL.out _ _ _ (by first | exact .inl ⟨rfl, rfl⟩ | exact .inr ⟨rfl, rfl⟩) H6.out).mono ?_
          rintro e w6 ⟨rfl, hb6⟩
          replace H6 := Lib.hid (H6.out.below hb6)
          replace hS1 := And.intro H6.out.s.pc (HAT.out _ H6.out.s.bel).c1
          clear hb6))
      clear hS0 hS1
      go_wp2
      go_roundw
      case rel => exact ⟨k + 1, by go_num, hk1.out, by rw [HP.out]; exact Lib.hid H6.out.s⟩
      case measure => simp [intOf]; omega
    · obtain rfl : k = l.length := by omega
      clear HR HWF
      generalize playF newF (l.take l.length) = F at *
      have AL := Lib.hid (fun (W : World) (i : Int) (h : St3 w W b g r p F) => h.alike OK.out i m)
      go_upto_region 13 with fail
      go_wp2
      go_loopw [14] (fun v14 wr => ∃ k : Nat, v14 = .int .i64 k ∧ k ≤ 16 ∧ Hid (St3 w wr b g r p F)) (fun v14 _ => 16 - (intOf v14).toNat)
      case atStart => exact ⟨0, rfl, Nat.zero_le _, HI⟩
      case round =>
        clear HI
        obtain ⟨k, rfl, hk, HI⟩ := hrel
        have hpc := HI.out.pc
        by_cases hlt : k < 16
        · go_wp2_with (go_at_call 22; refine (AL.out _ _ HI.out).mono ?_; rintro e w3 ⟨rfl, hb3⟩; replace HI := Lib.hid (HI.out.below hb3); clear hb3)
          go_roundw
          case rel => exact ⟨k + 1, by go_num, by omega, HI⟩
          case measure => simp [intOf]; omega
        · obtain rfl : k = 16 := by omega
          obtain ⟨rk, fn, fo, hfv, hfo⟩ : ∃ (k : Nat) (fn : Int) (fo : Bool), FreeV F k fn fo ∧ ((fo = true ∧ fn = k ∧ decide ((k : Int) < 16) = true) ∨ (fo = false ∧ fn = 0 ∧ decide ((k : Int) < 16) = false)) := by
            rcases free_any F with ⟨k, h1, h2⟩ | h
            · exact ⟨k, _, _, h2, .inl ⟨rfl, rfl, decide_eq_true (by omega)⟩⟩
            · exact ⟨16, _, _, h, .inr ⟨rfl, rfl, by decide⟩⟩
          have FC := Lib.hid (fun (W : World) (h : St3 w W b g r p F) => hfv.calls b W h.two.f)
          have RC := Lib.hid (fun (W : World) (h : St3 w W b g r p F) => h.rfree OK.out rk hfv.le hfv.all hfv.no)
          have BC := Lib.hid (fun (W : World) (h : St3 w W b g r p F) => h.bases)
          have RBC := Lib.hid (fun (W : World) (h : St3 w W b g r p F) => h.rbases OK.out)
          have BL := Lib.hid (bases_len F)
          clear hfv hlt hk
          generalize basesF F = B at *
          rcases hfo with ⟨rfl, rfl, hfo⟩ | ⟨rfl, rfl, hfo⟩
          all_goals
            go_upto_region 19 with (go_at_call 23; refine (FC.out _ HI.out).mono ?_; rintro e w3 ⟨rfl, hb3⟩; replace HI := Lib.hid (HI.out.below hb3); clear hb3)
            clear hpc
            have hpc := HI.out.pc
            go_upto_region 20 with (go_at_call 26; refine (RC.out _ HI.out).mono ?_; rintro e w' ⟨rfl, rfl⟩)
            as_aux_lemma =>
              refine wp_region_noPanic ?_
              refine wp_region_heldL (S := fun w' => w'.cell? { block := p, off := 0 } = some (.pointer (some ⟨g, 0, none⟩))) #[false, false, false, false, false, false, false, false, false, false, false, false, false, false, false, false, false, false, false, false, false, false, false, false, false, false, false, false, false, false, false, false, false, false, false, false] (by kernel_rfl) 36 (by kernel_rfl) (by kernel_rfl) hpc (fun hHeld => ?_)
              have H6 := Lib.hid (HI.out.below (below_drew (Below.refl _ _)))
              clear hpc HI
              first
                | (refine wpAnyH_takeL 0 #[true, false, false, false, false, false, false, false, false, false, false, false, false, false, false, false, false, false, false, false, false, false, false, false, false, false, false, false, false, false, false, false, false, false, false, false] (by kernel_rfl) (by kernel_rfl) (by kernel_rfl) (by kernel_rfl) (fun d v c a w h => h) (by assumption) ⟨?_, ?_, ?_, Or.inl ⟨?_, ?_⟩, ?_⟩
                   rotate_left
                   · simp only [List.getElem?_toArray, List.getElem?_cons_zero, List.getElem?_cons_succ]; rfl
                   rotate_left
                   · rfl
                   · intro w hSw; (try dsimp only at hSw); go_simp; try (with_reducible rfl)
                   simp only [Act.put, List.setIfInBounds_toArray, List.set_cons_zero, List.set_cons_succ])
                | (refine wpAnyH_takeL 0 #[true, false, false, false, false, false, false, false, false, false, false, false, false, false, false, false, false, false, false, false, false, false, false, false, false, false, false, false, false, false, false, false, false, false, false, false] (by kernel_rfl) (by kernel_rfl) (by kernel_rfl) (by kernel_rfl) (fun d v c a w h => h) (by assumption) ⟨?_, ?_, undef, Or.inr ⟨?_, rfl⟩, ?_⟩
                   rotate_left
                   · simp only [List.getElem?_toArray, List.getElem?_cons_zero, List.getElem?_cons_succ]; rfl
                   · rfl
                   simp only [Act.put, List.setIfInBounds_toArray, List.set_cons_zero, List.set_cons_succ])
              first
                | (refine wpAnyH_takeL 1 #[true, true, false, false, false, false, false, false, false, false, false, false, false, false, false, false, false, false, false, false, false, false, false, false, false, false, false, false, false, false, false, false, false, false, false, false] (by kernel_rfl) (by kernel_rfl) (by kernel_rfl) (by kernel_rfl) (fun d v c a w h => h) (by assumption) ⟨?_, ?_, ?_, Or.inl ⟨?_, ?_⟩, ?_⟩
                   rotate_left
                   · simp only [List.getElem?_toArray, List.getElem?_cons_zero, List.getElem?_cons_succ]; rfl
                   rotate_left
                   · rfl
                   · intro w hSw; (try dsimp only at hSw); go_simp; try (with_reducible rfl)
                   simp only [Act.put, List.setIfInBounds_toArray, List.set_cons_zero, List.set_cons_succ])
                | (refine wpAnyH_takeL 1 #[true, true, false, false, false, false, false, false, false, false, false, false, false, false, false, false, false, false, false, false, false, false, false, false, false, false, false, false, false, false, false, false, false, false, false, false] (by kernel_rfl) (by kernel_rfl) (by kernel_rfl) (by kernel_rfl) (fun d v c a w h => h) (by assumption) ⟨?_, ?_, undef, Or.inr ⟨?_, rfl⟩, ?_⟩
                   rotate_left
                   · simp only [List.getElem?_toArray, List.getElem?_cons_zero, List.getElem?_cons_succ]; rfl
                   · rfl
                   simp only [Act.put, List.setIfInBounds_toArray, List.set_cons_zero, List.set_cons_succ])
              first
                | (refine wpAnyH_takeL 2 #[true, true, true, false, false, false, false, false, false, false, false, false, false, false, false, false, false, false, false, false, false, false, false, false, false, false, false, false, false, false, false, false, false, false, false, false] (by kernel_rfl) (by kernel_rfl) (by kernel_rfl) (by kernel_rfl) (fun d v c a w h => h) (by assumption) ⟨?_, ?_, ?_, Or.inl ⟨?_, ?_⟩, ?_⟩
                   rotate_left
                   · simp only [List.getElem?_toArray, List.getElem?_cons_zero, List.getElem?_cons_succ]; rfl
                   rotate_left
                   · rfl
                   · intro w hSw; (try dsimp only at hSw); go_simp; try (with_reducible rfl)
                   simp only [Act.put, List.setIfInBounds_toArray, List.set_cons_zero, List.set_cons_succ])
                | (refine wpAnyH_takeL 2 #[true, true, true, false, false, false, false, false, false, false, false, false, false, false, false, false, false, false, false, false, false, false, false, false, false, false, false, false, false, false, false, false, false, false, false, false] (by kernel_rfl) (by kernel_rfl) (by kernel_rfl) (by kernel_rfl) (fun d v c a w h => h) (by assumption) ⟨?_, ?_, undef, Or.inr ⟨?_, rfl⟩, ?_⟩
                   rotate_left
                   · simp only [List.getElem?_toArray, List.getElem?_cons_zero, List.getElem?_cons_succ]; rfl
                   · rfl
                   simp only [Act.put, List.setIfInBounds_toArray, List.set_cons_zero, List.set_cons_succ])
              first
                | (refine wpAnyH_takeL 3 #[true, true, true, true, false, false, false, false, false, false, false, false, false, false, false, false, false, false, false, false, false, false, false, false, false, false, false, false, false, false, false, false, false, false, false, false] (by kernel_rfl) (by kernel_rfl) (by kernel_rfl) (by kernel_rfl) (fun d v c a w h => h) (by assumption) ⟨?_, ?_, ?_, Or.inl ⟨?_, ?_⟩, ?_⟩
                   rotate_left
                   · simp only [List.getElem?_toArray, List.getElem?_cons_zero, List.getElem?_cons_succ]; rfl
                   rotate_left
                   · rfl
                   · intro w hSw; (try dsimp only at hSw); go_simp; try (with_reducible rfl)
                   simp only [Act.put, List.setIfInBounds_toArray, List.set_cons_zero, List.set_cons_succ])
                | (refine wpAnyH_takeL 3 #[true, true, true, true, false, false, false, false, false, false, false, false, false, false, false, false, false, false, false, false, false, false, false, false, false, false, false, false, false, false, false, false, false, false, false, false] (by kernel_rfl) (by kernel_rfl) (by kernel_rfl) (by kernel_rfl) (fun d v c a w h => h) (by assumption) ⟨?_, ?_, undef, Or.inr ⟨?_, rfl⟩, ?_⟩
                   rotate_left
                   · simp only [List.getElem?_toArray, List.getElem?_cons_zero, List.getElem?_cons_succ]; rfl
                   · rfl
                   simp only [Act.put, List.setIfInBounds_toArray, List.set_cons_zero, List.set_cons_succ])
              first
                | (refine wpAnyH_takeL 4 #[true, true, true, true, true, false, false, false, false, false, false, false, false, false, false, false, false, false, false, false, false, false, false, false, false, false, false, false, false, false, false, false, false, false, false, false] (by kernel_rfl) (by kernel_rfl) (by kernel_rfl) (by kernel_rfl) (fun d v c a w h => h) (by assumption) ⟨?_, ?_, ?_, Or.inl ⟨?_, ?_⟩, ?_⟩
                   rotate_left
                   · simp only [List.getElem?_toArray, List.getElem?_cons_zero, List.getElem?_cons_succ]; rfl
                   rotate_left
                   · rfl
                   · intro w hSw; (try dsimp only at hSw); go_simp; try (with_reducible rfl)
                   simp only [Act.put, List.setIfInBounds_toArray, List.set_cons_zero, List.set_cons_succ])
                | (refine wpAnyH_takeL 4 #[true, true, true, true, true, false, false, false, false, false, false, false, false, false, false, false, false, false, false, false, false, false, false, false, false, false, false, false, false, false, false, false, false, false, false, false] (by kernel_rfl) (by kernel_rfl) (by kernel_rfl) (by kernel_rfl) (fun d v c a w h => h) (by assumption) ⟨?_, ?_, undef, Or.inr ⟨?_, rfl⟩, ?_⟩
                   rotate_left
                   · simp only [List.getElem?_toArray, List.getElem?_cons_zero, List.getElem?_cons_succ]; rfl
                   · rfl
                   simp only [Act.put, List.setIfInBounds_toArray, List.set_cons_zero, List.set_cons_succ])
              first
                | (refine wpAnyH_takeL 5 #[true, true, true, true, true, true, false, false, false, false, false, false, false, false, false, false, false, false, false, false, false, false, false, false, false, false, false, false, false, false, false, false, false, false, false, false] (by kernel_rfl) (by kernel_rfl) (by kernel_rfl) (by kernel_rfl) (fun d v c a w h => h) (by assumption) ⟨?_, ?_, ?_, Or.inl ⟨?_, ?_⟩, ?_⟩
                   rotate_left
                   · simp only [List.getElem?_toArray, List.getElem?_cons_zero, List.getElem?_cons_succ]; rfl
                   rotate_left
                   · rfl
                   · intro w hSw; (try dsimp only at hSw); go_simp; try (with_reducible rfl)
                   simp only [Act.put, List.setIfInBounds_toArray, List.set_cons_zero, List.set_cons_succ])
                | (refine wpAnyH_takeL 5 #[true, true, true, true, true, true, false, false, false, false, false, false, false, false, false, false, false, false, false, false, false, false, false, false, false, false, false, false, false, false, false, false, false, false, false, false] (by kernel_rfl) (by kernel_rfl) (by kernel_rfl) (by kernel_rfl) (fun d v c a w h => h) (by assumption) ⟨?_, ?_, undef, Or.inr ⟨?_, rfl⟩, ?_⟩
                   rotate_left
                   · simp only [List.getElem?_toArray, List.getElem?_cons_zero, List.getElem?_cons_succ]; rfl
                   · rfl
                   simp only [Act.put, List.setIfInBounds_toArray, List.set_cons_zero, List.set_cons_succ])
              first
                | (refine wpAnyH_takeL 6 #[true, true, true, true, true, true, true, false, false, false, false, false, false, false, false, false, false, false, false, false, false, false, false, false, false, false, false, false, false, false, false, false, false, false, false, false] (by kernel_rfl) (by kernel_rfl) (by kernel_rfl) (by kernel_rfl) (fun d v c a w h => h) (by assumption) ⟨?_, ?_, ?_, Or.inl ⟨?_, ?_⟩, ?_⟩
                   rotate_left
                   · simp only [List.getElem?_toArray, List.getElem?_cons_zero, List.getElem?_cons_succ]; rfl
                   rotate_left
                   · rfl
                   · intro w hSw; (try dsimp only at hSw); go_simp; try (with_reducible rfl)
                   simp only [Act.put, List.setIfInBounds_toArray, List.set_cons_zero, List.set_cons_succ])
                | (refine wpAnyH_takeL 6 #[true, true, true, true, true, true, true, false, false, false, false, false, false, false, false, false, false, false, false, false, false, false, false, false, false, false, false, false, false, false, false, false, false, false, false, false] (by kernel_rfl) (by kernel_rfl) (by kernel_rfl) (by kernel_rfl) (fun d v c a w h => h) (by assumption) ⟨?_, ?_, undef, Or.inr ⟨?_, rfl⟩, ?_⟩
                   rotate_left
                   · simp only [List.getElem?_toArray, List.getElem?_cons_zero, List.getElem?_cons_succ]; rfl
                   · rfl
                   simp only [Act.put, List.setIfInBounds_toArray, List.set_cons_zero, List.set_cons_succ])
              as_aux_lemma =>
                first
                  | (refine wpAnyH_takeL 7 #[true, true, true, true, true, true, true, true, false, false, false, false, false, false, false, false, false, false, false, false, false, false, false, false, false, false, false, false, false, false, false, false, false, false, false, false] (by kernel_rfl) (by kernel_rfl) (by kernel_rfl) (by kernel_rfl) (fun d v c a w h => h) (by assumption) ⟨?_, ?_, ?_, Or.inl ⟨?_, ?_⟩, ?_⟩
                     rotate_left
                     · simp only [List.getElem?_toArray, List.getElem?_cons_zero, List.getElem?_cons_succ]; rfl
                     rotate_left
                     · rfl
                     · intro w hSw; (try dsimp only at hSw); go_simp; try (with_reducible rfl)
                     simp only [Act.put, List.setIfInBounds_toArray, List.set_cons_zero, List.set_cons_succ])
                  | (refine wpAnyH_takeL 7 #[true, true, true, true, true, true, true, true, false, false, false, false, false, false, false, false, false, false, false, false, false, false, false, false, false, false, false, false, false, false, false, false, false, false, false, false] (by kernel_rfl) (by kernel_rfl) (by kernel_rfl) (by kernel_rfl) (fun d v c a w h => h) (by assumption) ⟨?_, ?_, undef, Or.inr ⟨?_, rfl⟩, ?_⟩
                     rotate_left
                     · simp only [List.getElem?_toArray, List.getElem?_cons_zero, List.getElem?_cons_succ]; rfl
                     · rfl
                     simp only [Act.put, List.setIfInBounds_toArray, List.set_cons_zero, List.set_cons_succ])
                first
                  | (refine wpAnyH_takeL 8 #[true, true, true, true, true, true, true, true, true, false, false, false, false, false, false, false, false, false, false, false, false, false, false, false, false, false, false, false, false, false, false, false, false, false, false, false] (by kernel_rfl) (by kernel_rfl) (by kernel_rfl) (by kernel_rfl) (fun d v c a w h => h) (by assumption) ⟨?_, ?_, ?_, Or.inl ⟨?_, ?_⟩, ?_⟩
                     rotate_left
                     · simp only [List.getElem?_toArray, List.getElem?_cons_zero, List.getElem?_cons_succ]; rfl
                     rotate_left
                     · rfl
                     · intro w hSw; (try dsimp only at hSw); go_simp; try (with_reducible rfl)
                     simp only [Act.put, List.setIfInBounds_toArray, List.set_cons_zero, List.set_cons_succ])
                  | (refine wpAnyH_takeL 8 #[true, true, true, true, true, true, true, true, true, false, false, false, false, false, false, false, false, false, false, false, false, false, false, false, false, false, false, false, false, false, false, false, false, false, false, false] (by kernel_rfl) (by kernel_rfl) (by kernel_rfl) (by kernel_rfl) (fun d v c a w h => h) (by assumption) ⟨?_, ?_, undef, Or.inr ⟨?_, rfl⟩, ?_⟩
                     rotate_left
                     · simp only [List.getElem?_toArray, List.getElem?_cons_zero, List.getElem?_cons_succ]; rfl
                     · rfl
                     simp only [Act.put, List.setIfInBounds_toArray, List.set_cons_zero, List.set_cons_succ])
                first
                  | (refine wpAnyH_takeL 9 #[true, true, true, true, true, true, true, true, true, true, false, false, false, false, false, false, false, false, false, false, false, false, false, false, false, false, false, false, false, false, false, false, false, false, false, false] (by kernel_rfl) (by kernel_rfl) (by kernel_rfl) (by kernel_rfl) (fun d v c a w h => h) (by assumption) ⟨?_, ?_, ?_, Or.inl ⟨?_, ?_⟩, ?_⟩
                     rotate_left
                     · simp only [List.getElem?_toArray, List.getElem?_cons_zero, List.getElem?_cons_succ]; rfl
                     rotate_left
                     · rfl
                     · intro w hSw; (try dsimp only at hSw); go_simp; try (with_reducible rfl)
                     simp only [Act.put, List.setIfInBounds_toArray, List.set_cons_zero, List.set_cons_succ])
                  | (refine wpAnyH_takeL 9 #[true, true, true, true, true, true, true, true, true, true, false, false, false, false, false, false, false, false, false, false, false, false, false, false, false, false, false, false, false, false, false, false, false, false, false, false] (by kernel_rfl) (by kernel_rfl) (by kernel_rfl) (by kernel_rfl) (fun d v c a w h => h) (by assumption) ⟨?_, ?_, undef, Or.inr ⟨?_, rfl⟩, ?_⟩
                     rotate_left
                     · simp only [List.getElem?_toArray, List.getElem?_cons_zero, List.getElem?_cons_succ]; rfl
                     · rfl
                     simp only [Act.put, List.setIfInBounds_toArray, List.set_cons_zero, List.set_cons_succ])
                first
                  | (refine wpAnyH_takeL 10 #[true, true, true, true, true, true, true, true, true, true, true, false, false, false, false, false, false, false, false, false, false, false, false, false, false, false, false, false, false, false, false, false, false, false, false, false] (by kernel_rfl) (by kernel_rfl) (by kernel_rfl) (by kernel_rfl) (fun d v c a w h => h) (by assumption) ⟨?_, ?_, ?_, Or.inl ⟨?_, ?_⟩, ?_⟩
                     rotate_left
                     · simp only [List.getElem?_toArray, List.getElem?_cons_zero, List.getElem?_cons_succ]; rfl
                     rotate_left
                     · rfl
                     · intro w hSw; (try dsimp only at hSw); go_simp; try (with_reducible rfl)
                     simp only [Act.put, List.setIfInBounds_toArray, List.set_cons_zero, List.set_cons_succ])
                  | (refine wpAnyH_takeL 10 #[true, true, true, true, true, true, true, true, true, true, true, false, false, false, false, false, false, false, false, false, false, false, false, false, false, false, false, false, false, false, false, false, false, false, false, false] (by kernel_rfl) (by kernel_rfl) (by kernel_rfl) (by kernel_rfl) (fun d v c a w h => h) (by assumption) ⟨?_, ?_, undef, Or.inr ⟨?_, rfl⟩, ?_⟩
                     rotate_left
                     · simp only [List.getElem?_toArray, List.getElem?_cons_zero, List.getElem?_cons_succ]; rfl
                     · rfl
                     simp only [Act.put, List.setIfInBounds_toArray, List.set_cons_zero, List.set_cons_succ])
                first
                  | (refine wpAnyH_takeL 11 #[true, true, true, true, true, true, true, true, true, true, true, true, false, false, false, false, false, false, false, false, false, false, false, false, false, false, false, false, false, false, false, false, false, false, false, false] (by kernel_rfl) (by kernel_rfl) (by kernel_rfl) (by kernel_rfl) (fun d v c a w h => h) (by assumption) ⟨?_, ?_, ?_, Or.inl ⟨?_, ?_⟩, ?_⟩
                     rotate_left
                     · simp only [List.getElem?_toArray, List.getElem?_cons_zero, List.getElem?_cons_succ]; rfl
                     rotate_left
                     · rfl
                     · intro w hSw; (try dsimp only at hSw); go_simp; try (with_reducible rfl)
                     simp only [Act.put, List.setIfInBounds_toArray, List.set_cons_zero, List.set_cons_succ])
                  | (refine wpAnyH_takeL 11 #[true, true, true, true, true, true, true, true, true, true, true, true, false, false, false, false, false, false, false, false, false, false, false, false, false, false, false, false, false, false, false, false, false, false, false, false] (by kernel_rfl) (by kernel_rfl) (by kernel_rfl) (by kernel_rfl) (fun d v c a w h => h) (by assumption) ⟨?_, ?_, undef, Or.inr ⟨?_, rfl⟩, ?_⟩
                     rotate_left
                     · simp only [List.getElem?_toArray, List.getElem?_cons_zero, List.getElem?_cons_succ]; rfl
                     · rfl
                     simp only [Act.put, List.setIfInBounds_toArray, List.set_cons_zero, List.set_cons_succ])
                first
                  | (refine wpAnyH_takeL 12 #[true, true, true, true, true, true, true, true, true, true, true, true, true, false, false, false, false, false, false, false, false, false, false, false, false, false, false, false, false, false, false, false, false, false, false, false] (by kernel_rfl) (by kernel_rfl) (by kernel_rfl) (by kernel_rfl) (fun d v c a w h => h) (by assumption) ⟨?_, ?_, ?_, Or.inl ⟨?_, ?_⟩, ?_⟩
                     rotate_left
                     · simp only [List.getElem?_toArray, List.getElem?_cons_zero, List.getElem?_cons_succ]; rfl
                     rotate_left
                     · rfl
                     · intro w hSw; (try dsimp only at hSw); go_simp; try (with_reducible rfl)
                     simp only [Act.put, List.setIfInBounds_toArray, List.set_cons_zero, List.set_cons_succ])
                  | (refine wpAnyH_takeL 12 #[true, true, true, true, true, true, true, true, true, true, true, true, true, false, false, false, false, false, false, false, false, false, false, false, false, false, false, false, false, false, false, false, false, false, false, false] (by kernel_rfl) (by kernel_rfl) (by kernel_rfl) (by kernel_rfl) (fun d v c a w h => h) (by assumption) ⟨?_, ?_, undef, Or.inr ⟨?_, rfl⟩, ?_⟩
                     rotate_left
                     · simp only [List.getElem?_toArray, List.getElem?_cons_zero, List.getElem?_cons_succ]; rfl
                     · rfl
                     simp only [Act.put, List.setIfInBounds_toArray, List.set_cons_zero, List.set_cons_succ])
                first
                  | (refine wpAnyH_takeL 13 #[true, true, true, true, true, true, true, true, true, true, true, true, true, true, false, false, false, false, false, false, false, false, false, false, false, false, false, false, false, false, false, false, false, false, false, false] (by kernel_rfl) (by kernel_rfl) (by kernel_rfl) (by kernel_rfl) (fun d v c a w h => h) (by assumption) ⟨?_, ?_, ?_, Or.inl ⟨?_, ?_⟩, ?_⟩
                     rotate_left
                     · simp only [List.getElem?_toArray, List.getElem?_cons_zero, List.getElem?_cons_succ]; rfl
                     rotate_left
                     · rfl
                     · intro w hSw; (try dsimp only at hSw); go_simp; try (with_reducible rfl)
                     simp only [Act.put, List.setIfInBounds_toArray, List.set_cons_zero, List.set_cons_succ])
                  | (refine wpAnyH_takeL 13 #[true, true, true, true, true, true, true, true, true, true, true, true, true, true, false, false, false, false, false, false, false, false, false, false, false, false, false, false, false, false, false, false, false, false, false, false] (by kernel_rfl) (by kernel_rfl) (by kernel_rfl) (by kernel_rfl) (fun d v c a w h => h) (by assumption) ⟨?_, ?_, undef, Or.inr ⟨?_, rfl⟩, ?_⟩
                     rotate_left
                     · simp only [List.getElem?_toArray, List.getElem?_cons_zero, List.getElem?_cons_succ]; rfl
                     · rfl
                     simp only [Act.put, List.setIfInBounds_toArray, List.set_cons_zero, List.set_cons_succ])
                as_aux_lemma =>
                  first
                    | (refine wpAnyH_takeL 14 #[true, true, true, true, true, true, true, true, true, true, true, true, true, true, true, false, false, false, false, false, false, false, false, false, false, false, false, false, false, false, false, false, false, false, false, false] (by kernel_rfl) (by kernel_rfl) (by kernel_rfl) (by kernel_rfl) (fun d v c a w h => h) (by assumption) ⟨?_, ?_, ?_, Or.inl ⟨?_, ?_⟩, ?_⟩
                       rotate_left
                       · simp only [List.getElem?_toArray, List.getElem?_cons_zero, List.getElem?_cons_succ]; rfl
                       rotate_left
                       · rfl
                       · intro w hSw; (try dsimp only at hSw); go_simp; try (with_reducible rfl)
                       simp only [Act.put, List.setIfInBounds_toArray, List.set_cons_zero, List.set_cons_succ])
                    | (refine wpAnyH_takeL 14 #[true, true, true, true, true, true, true, true, true, true, true, true, true, true, true, false, false, false, false, false, false, false, false, false, false, false, false, false, false, false, false, false, false, false, false, false] (by kernel_rfl) (by kernel_rfl) (by kernel_rfl) (by kernel_rfl) (fun d v c a w h => h) (by assumption) ⟨?_, ?_, undef, Or.inr ⟨?_, rfl⟩, ?_⟩
                       rotate_left
                       · simp only [List.getElem?_toArray, List.getElem?_cons_zero, List.getElem?_cons_succ]; rfl
                       · rfl
                       simp only [Act.put, List.setIfInBounds_toArray, List.set_cons_zero, List.set_cons_succ])
                  first
                    | (refine wpAnyH_takeL 15 #[true, true, true, true, true, true, true, true, true, true, true, true, true, true, true, true, false, false, false, false, false, false, false, false, false, false, false, false, false, false, false, false, false, false, false, false] (by kernel_rfl) (by kernel_rfl) (by kernel_rfl) (by kernel_rfl) (fun d v c a w h => h) (by assumption) ⟨?_, ?_, ?_, Or.inl ⟨?_, ?_⟩, ?_⟩
                       rotate_left
                       · simp only [List.getElem?_toArray, List.getElem?_cons_zero, List.getElem?_cons_succ]; rfl
                       rotate_left
                       · rfl
                       · intro w hSw; (try dsimp only at hSw); go_simp; try (with_reducible rfl)
                       simp only [Act.put, List.setIfInBounds_toArray, List.set_cons_zero, List.set_cons_succ])
                    | (refine wpAnyH_takeL 15 #[true, true, true, true, true, true, true, true, true, true, true, true, true, true, true, true, false, false, false, false, false, false, false, false, false, false, false, false, false, false, false, false, false, false, false, false] (by kernel_rfl) (by kernel_rfl) (by kernel_rfl) (by kernel_rfl) (fun d v c a w h => h) (by assumption) ⟨?_, ?_, undef, Or.inr ⟨?_, rfl⟩, ?_⟩
                       rotate_left
                       · simp only [List.getElem?_toArray, List.getElem?_cons_zero, List.getElem?_cons_succ]; rfl
                       · rfl
                       simp only [Act.put, List.setIfInBounds_toArray, List.set_cons_zero, List.set_cons_succ])
                  first
                    | (refine wpAnyH_takeL 16 #[true, true, true, true, true, true, true, true, true, true, true, true, true, true, true, true, true, false, false, false, false, false, false, false, false, false, false, false, false, false, false, false, false, false, false, false] (by kernel_rfl) (by kernel_rfl) (by kernel_rfl) (by kernel_rfl) (fun d v c a w h => h) (by assumption) ⟨?_, ?_, ?_, Or.inl ⟨?_, ?_⟩, ?_⟩
                       rotate_left
                       · simp only [List.getElem?_toArray, List.getElem?_cons_zero, List.getElem?_cons_succ]; rfl
                       rotate_left
                       · rfl
                       · intro w hSw; (try dsimp only at hSw); go_simp; try (with_reducible rfl)
                       simp only [Act.put, List.setIfInBounds_toArray, List.set_cons_zero, List.set_cons_succ])
                    | (refine wpAnyH_takeL 16 #[true, true, true, true, true, true, true, true, true, true, true, true, true, true, true, true, true, false, false, false, false, false, false, false, false, false, false, false, false, false, false, false, false, false, false, false] (by kernel_rfl) (by kernel_rfl) (by kernel_rfl) (by kernel_rfl) (fun d v c a w h => h) (by assumption) ⟨?_, ?_, undef, Or.inr ⟨?_, rfl⟩, ?_⟩
                       rotate_left
                       · simp only [List.getElem?_toArray, List.getElem?_cons_zero, List.getElem?_cons_succ]; rfl
                       · rfl
                       simp only [Act.put, List.setIfInBounds_toArray, List.set_cons_zero, List.set_cons_succ])
                  first
                    | (refine wpAnyH_takeL 17 #[true, true, true, true, true, true, true, true, true, true, true, true, true, true, true, true, true, true, false, false, false, false, false, false, false, false, false, false, false, false, false, false, false, false, false, false] (by kernel_rfl) (by kernel_rfl) (by kernel_rfl) (by kernel_rfl) (fun d v c a w h => h) (by assumption) ⟨?_, ?_, ?_, Or.inl ⟨?_, ?_⟩, ?_⟩
                       rotate_left
                       · simp only [List.getElem?_toArray, List.getElem?_cons_zero, List.getElem?_cons_succ]; rfl
                       rotate_left
                       · rfl
                       · intro w hSw; (try dsimp only at hSw); go_simp; try (with_reducible rfl)
                       simp only [Act.put, List.setIfInBounds_toArray, List.set_cons_zero, List.set_cons_succ])
                    | (refine wpAnyH_takeL 17 #[true, true, true, true, true, true, true, true, true, true, true, true, true, true, true, true, true, true, false, false, false, false, false, false, false, false, false, false, false, false, false, false, false, false, false, false] (by kernel_rfl) (by kernel_rfl) (by kernel_rfl) (by kernel_rfl) (fun d v c a w h => h) (by assumption) ⟨?_, ?_, undef, Or.inr ⟨?_, rfl⟩, ?_⟩
                       rotate_left
                       · simp only [List.getElem?_toArray, List.getElem?_cons_zero, List.getElem?_cons_succ]; rfl
                       · rfl
                       simp only [Act.put, List.setIfInBounds_toArray, List.set_cons_zero, List.set_cons_succ])
                  first
                    | (refine wpAnyH_takeL 18 #[true, true, true, true, true, true, true, true, true, true, true, true, true, true, true, true, true, true, true, false, false, false, false, false, false, false, false, false, false, false, false, false, false, false, false, false] (by kernel_rfl) (by kernel_rfl) (by kernel_rfl) (by kernel_rfl) (fun d v c a w h => h) (by assumption) ⟨?_, ?_, ?_, Or.inl ⟨?_, ?_⟩, ?_⟩
                       rotate_left
                       · simp only [List.getElem?_toArray, List.getElem?_cons_zero, List.getElem?_cons_succ]; rfl
                       rotate_left
                       · rfl
                       · intro w hSw; (try dsimp only at hSw); go_simp; try (with_reducible rfl)
                       simp only [Act.put, List.setIfInBounds_toArray, List.set_cons_zero, List.set_cons_succ])
                    | (refine wpAnyH_takeL 18 #[true, true, true, true, true, true, true, true, true, true, true, true, true, true, true, true, true, true, true, false, false, false, false, false, false, false, false, false, false, false, false, false, false, false, false, false] (by kernel_rfl) (by kernel_rfl) (by kernel_rfl) (by kernel_rfl) (fun d v c a w h => h) (by assumption) ⟨?_, ?_, undef, Or.inr ⟨?_, rfl⟩, ?_⟩
                       rotate_left
                       · simp only [List.getElem?_toArray, List.getElem?_cons_zero, List.getElem?_cons_succ]; rfl
                       · rfl
                       simp only [Act.put, List.setIfInBounds_toArray, List.set_cons_zero, List.set_cons_succ])
                  first
                    | (refine wpAnyH_takeL 19 #[true, true, true, true, true, true, true, true, true, true, true, true, true, true, true, true, true, true, true, true, false, false, false, false, false, false, false, false, false, false, false, false, false, false, false, false] (by kernel_rfl) (by kernel_rfl) (by kernel_rfl) (by kernel_rfl) (fun d v c a w h => h) (by assumption) ⟨?_, ?_, ?_, Or.inl ⟨?_, ?_⟩, ?_⟩
                       rotate_left
                       · simp only [List.getElem?_toArray, List.getElem?_cons_zero, List.getElem?_cons_succ]; rfl
                       rotate_left
                       · rfl
                       · intro w hSw; (try dsimp only at hSw); go_simp; try (with_reducible rfl)
                       simp only [Act.put, List.setIfInBounds_toArray, List.set_cons_zero, List.set_cons_succ])
                    | (refine wpAnyH_takeL 19 #[true, true, true, true, true, true, true, true, true, true, true, true, true, true, true, true, true, true, true, true, false, false, false, false, false, false, false, false, false, false, false, false, false, false, false, false] (by kernel_rfl) (by kernel_rfl) (by kernel_rfl) (by kernel_rfl) (fun d v c a w h => h) (by assumption) ⟨?_, ?_, undef, Or.inr ⟨?_, rfl⟩, ?_⟩
                       rotate_left
                       · simp only [List.getElem?_toArray, List.getElem?_cons_zero, List.getElem?_cons_succ]; rfl
                       · rfl
                       simp only [Act.put, List.setIfInBounds_toArray, List.set_cons_zero, List.set_cons_succ])
                  first
                    | (refine wpAnyH_takeL 20 #[true, true, true, true, true, true, true, true, true, true, true, true, true, true, true, true, true, true, true, true, true, false, false, false, false, false, false, false, false, false, false, false, false, false, false, false] (by kernel_rfl) (by kernel_rfl) (by kernel_rfl) (by kernel_rfl) (fun d v c a w h => h) (by assumption) ⟨?_, ?_, ?_, Or.inl ⟨?_, ?_⟩, ?_⟩
                       rotate_left
                       · simp only [List.getElem?_toArray, List.getElem?_cons_zero, List.getElem?_cons_succ]; rfl
                       rotate_left
                       · rfl
                       · intro w hSw; (try dsimp only at hSw); go_simp; try (with_reducible rfl)
                       simp only [Act.put, List.setIfInBounds_toArray, List.set_cons_zero, List.set_cons_succ])
                    | (refine wpAnyH_takeL 20 #[true, true, true, true, true, true, true, true, true, true, true, true, true, true, true, true, true, true, true, true, true, false, false, false, false, false, false, false, false, false, false, false, false, false, false, false] (by kernel_rfl) (by kernel_rfl) (by kernel_rfl) (by kernel_rfl) (fun d v c a w h => h) (by assumption) ⟨?_, ?_, undef, Or.inr ⟨?_, rfl⟩, ?_⟩
                       rotate_left
                       · simp only [List.getElem?_toArray, List.getElem?_cons_zero, List.getElem?_cons_succ]; rfl
                       · rfl
                       simp only [Act.put, List.setIfInBounds_toArray, List.set_cons_zero, List.set_cons_succ])
                  as_aux_lemma =>
                    first
                      | (refine wpAnyH_takeL 21 #[true, true, true, true, true, true, true, true, true, true, true, true, true, true, true, true, true, true, true, true, true, true, false, false, false, false, false, false, false, false, false, false, false, false, false, false] (by kernel_rfl) (by kernel_rfl) (by kernel_rfl) (by kernel_rfl) (fun d v c a w h => h) (by assumption) ⟨?_, ?_, ?_, Or.inl ⟨?_, ?_⟩, ?_⟩
                         rotate_left
                         · simp only [List.getElem?_toArray, List.getElem?_cons_zero, List.getElem?_cons_succ]; rfl
                         rotate_left
                         · rfl
                         · intro w hSw; (try dsimp only at hSw); go_simp; try (with_reducible rfl)
                         simp only [Act.put, List.setIfInBounds_toArray, List.set_cons_zero, List.set_cons_succ])
                      | (refine wpAnyH_takeL 21 #[true, true, true, true, true, true, true, true, true, true, true, true, true, true, true, true, true, true, true, true, true, true, false, false, false, false, false, false, false, false, false, false, false, false, false, false] (by kernel_rfl) (by kernel_rfl) (by kernel_rfl) (by kernel_rfl) (fun d v c a w h => h) (by assumption) ⟨?_, ?_, undef, Or.inr ⟨?_, rfl⟩, ?_⟩
                         rotate_left
                         · simp only [List.getElem?_toArray, List.getElem?_cons_zero, List.getElem?_cons_succ]; rfl
                         · rfl
                         simp only [Act.put, List.setIfInBounds_toArray, List.set_cons_zero, List.set_cons_succ])
                    first
                      | (refine wpAnyH_takeL 23 #[true, true, true, true, true, true, true, true, true, true, true, true, true, true, true, true, true, true, true, true, true, true, false, true, false, false, false, false, false, false, false, false, false, false, false, false] (by kernel_rfl) (by kernel_rfl) (by kernel_rfl) (by kernel_rfl) (fun d v c a w h => h) (by assumption) ⟨?_, ?_, ?_, Or.inl ⟨?_, ?_⟩, ?_⟩
                         rotate_left
                         · simp only [List.getElem?_toArray, List.getElem?_cons_zero, List.getElem?_cons_succ]; rfl
                         rotate_left
                         · rfl
                         · intro w hSw; (try dsimp only at hSw); go_simp; try (with_reducible rfl)
                         simp only [Act.put, List.setIfInBounds_toArray, List.set_cons_zero, List.set_cons_succ])
                      | (refine wpAnyH_takeL 23 #[true, true, true, true, true, true, true, true, true, true, true, true, true, true, true, true, true, true, true, true, true, true, false, true, false, false, false, false, false, false, false, false, false, false, false, false] (by kernel_rfl) (by kernel_rfl) (by kernel_rfl) (by kernel_rfl) (fun d v c a w h => h) (by assumption) ⟨?_, ?_, undef, Or.inr ⟨?_, rfl⟩, ?_⟩
                         rotate_left
                         · simp only [List.getElem?_toArray, List.getElem?_cons_zero, List.getElem?_cons_succ]; rfl
                         · rfl
                         simp only [Act.put, List.setIfInBounds_toArray, List.set_cons_zero, List.set_cons_succ])
                    refine wpAnyH_oneL 22 #[true, true, true, true, true, true, true, true, true, true, true, true, true, true, true, true, true, true, true, true, true, true, true, true, false, false, false, false, false, false, false, false, false, false, false, false] (by kernel_rfl) (by kernel_rfl) ⟨?_, ?_, fun K hK => ?_⟩
                    rotate_left
                    · simp only [List.getElem?_toArray, List.getElem?_cons_zero, List.getElem?_cons_succ]; rfl
                    rw [if_pos (by rfl)]
                    go_simp
                    go_at_call 18; refine (BC.out _ H6.out).mono ?_; rintro e w4 ⟨A4, c4, rfl, hr4, hb4⟩; replace H6 := Lib.hid (H6.out.below hb4); replace hr4 := Lib.hid hr4; clear hb4
                    clear hHeld
                    refine hK.out _ _ H6.out.pc (fun hHeld => ?_)
                    clear hK K
                    try simp only [Act.put, List.setIfInBounds_toArray, List.set_cons_zero, List.set_cons_succ]
                    refine wpAnyH_oneL 24 #[true, true, true, true, true, true, true, true, true, true, true, true, true, true, true, true, true, true, true, true, true, true, true, true, true, false, false, false, false, false, false, false, false, false, false, false] (by kernel_rfl) (by kernel_rfl) ⟨?_, ?_, fun K hK => ?_⟩
                    rotate_left
                    · simp only [List.getElem?_toArray, List.getElem?_cons_zero, List.getElem?_cons_succ]; rfl
                    rw [if_pos (by rfl)]
                    go_simp
                    go_at_call 27; refine (RBC.out _ H6.out).mono ?_; rintro e w5 ⟨A5, c5, rfl, hr5, hb5⟩; replace H6 := Lib.hid (H6.out.below hb5); replace hr4 := Lib.hid (hr4.out.below hb5); replace hr5 := Lib.hid hr5; clear hb5
                    clear hHeld
                    refine hK.out _ _ H6.out.pc (fun hHeld => ?_)
                    clear hK K
                    try simp only [Act.put, List.setIfInBounds_toArray, List.set_cons_zero, List.set_cons_succ]
                    refine wpAnyH_oneL 25 #[true, true, true, true, true, true, true, true, true, true, true, true, true, true, true, true, true, true, true, true, true, true, true, true, true, true, false, false, false, false, false, false, false, false, false, false] (by kernel_rfl) (by kernel_rfl) ⟨?_, ?_, fun K hK => ?_⟩
                    rotate_left
                    · simp only [List.getElem?_toArray, List.getElem?_cons_zero, List.getElem?_cons_succ]; rfl
                    rw [if_pos (by rfl)]
                    go_simp
                    go_at_call 20; refine (nums_calls B hr4.out hr5.out (Nat.le_trans BL.out (by omega))).mono ?_; rintro e w6 ⟨rfl, hb6⟩; replace H6 := Lib.hid (H6.out.below hb6); clear hb6 hr4 hr5
                    clear hHeld
                    refine hK.out _ _ H6.out.pc (fun hHeld => ?_)
                    clear hK K
                    try simp only [Act.put, List.setIfInBounds_toArray, List.set_cons_zero, List.set_cons_succ]
                    first
                      | (refine wpAnyH_takeL 26 #[true, true, true, true, true, true, true, true, true, true, true, true, true, true, true, true, true, true, true, true, true, true, true, true, true, true, true, false, false, false, false, false, false, false, false, false] (by kernel_rfl) (by kernel_rfl) (by kernel_rfl) (by kernel_rfl) (fun d v c a w h => h) (by assumption) ⟨?_, ?_, ?_, Or.inl ⟨?_, ?_⟩, ?_⟩
                         rotate_left
                         · simp only [List.getElem?_toArray, List.getElem?_cons_zero, List.getElem?_cons_succ]; rfl
                         rotate_left
                         · rfl
                         · intro w hSw; (try dsimp only at hSw); go_simp; try (with_reducible rfl)
                         simp only [Act.put, List.setIfInBounds_toArray, List.set_cons_zero, List.set_cons_succ])
                      | (refine wpAnyH_takeL 26 #[true, true, true, true, true, true, true, true, true, true, true, true, true, true, true, true, true, true, true, true, true, true, true, true, true, true, true, false, false, false, false, false, false, false, false, false] (by kernel_rfl) (by kernel_rfl) (by kernel_rfl) (by kernel_rfl) (fun d v c a w h => h) (by assumption) ⟨?_, ?_, undef, Or.inr ⟨?_, rfl⟩, ?_⟩
                         rotate_left
                         · simp only [List.getElem?_toArray, List.getElem?_cons_zero, List.getElem?_cons_succ]; rfl
                         · rfl
                         simp only [Act.put, List.setIfInBounds_toArray, List.set_cons_zero, List.set_cons_succ])
                    first
                      | (refine wpAnyH_takeL 27 #[true, true, true, true, true, true, true, true, true, true, true, true, true, true, true, true, true, true, true, true, true, true, true, true, true, true, true, true, false, false, false, false, false, false, false, false] (by kernel_rfl) (by kernel_rfl) (by kernel_rfl) (by kernel_rfl) (fun d v c a w h => h) (by assumption) ⟨?_, ?_, ?_, Or.inl ⟨?_, ?_⟩, ?_⟩
                         rotate_left
                         · simp only [List.getElem?_toArray, List.getElem?_cons_zero, List.getElem?_cons_succ]; rfl
                         rotate_left
                         · rfl
                         · intro w hSw; (try dsimp only at hSw); go_simp; try (with_reducible rfl)
                         simp only [Act.put, List.setIfInBounds_toArray, List.set_cons_zero, List.set_cons_succ])
                      | (refine wpAnyH_takeL 27 #[true, true, true, true, true, true, true, true, true, true, true, true, true, true, true, true, true, true, true, true, true, true, true, true, true, true, true, true, false, false, false, false, false, false, false, false] (by kernel_rfl) (by kernel_rfl) (by kernel_rfl) (by kernel_rfl) (fun d v c a w h => h) (by assumption) ⟨?_, ?_, undef, Or.inr ⟨?_, rfl⟩, ?_⟩
                         rotate_left
                         · simp only [List.getElem?_toArray, List.getElem?_cons_zero, List.getElem?_cons_succ]; rfl
                         · rfl
                         simp only [Act.put, List.setIfInBounds_toArray, List.set_cons_zero, List.set_cons_succ])
                    as_aux_lemma =>
                      first
                        | (refine wpAnyH_takeL 28 #[true, true, true, true, true, true, true, true, true, true, true, true, true, true, true, true, true, true, true, true, true, true, true, true, true, true, true, true, true, false, false, false, false, false, false, false] (by kernel_rfl) (by kernel_rfl) (by kernel_rfl) (by kernel_rfl) (fun d v c a w h => h) (by assumption) ⟨?_, ?_, ?_, Or.inl ⟨?_, ?_⟩, ?_⟩
                           rotate_left
                           · simp only [List.getElem?_toArray, List.getElem?_cons_zero, List.getElem?_cons_succ]; rfl
                           rotate_left
                           · rfl
                           · intro w hSw; (try dsimp only at hSw); go_simp; try (with_reducible rfl)
                           simp only [Act.put, List.setIfInBounds_toArray, List.set_cons_zero, List.set_cons_succ])
                        | (refine wpAnyH_takeL 28 #[true, true, true, true, true, true, true, true, true, true, true, true, true, true, true, true, true, true, true, true, true, true, true, true, true, true, true, true, true, false, false, false, false, false, false, false] (by kernel_rfl) (by kernel_rfl) (by kernel_rfl) (by kernel_rfl) (fun d v c a w h => h) (by assumption) ⟨?_, ?_, undef, Or.inr ⟨?_, rfl⟩, ?_⟩
                           rotate_left
                           · simp only [List.getElem?_toArray, List.getElem?_cons_zero, List.getElem?_cons_succ]; rfl
                           · rfl
                           simp only [Act.put, List.setIfInBounds_toArray, List.set_cons_zero, List.set_cons_succ])
                      first
                        | (refine wpAnyH_takeL 29 #[true, true, true, true, true, true, true, true, true, true, true, true, true, true, true, true, true, true, true, true, true, true, true, true, true, true, true, true, true, true, false, false, false, false, false, false] (by kernel_rfl) (by kernel_rfl) (by kernel_rfl) (by kernel_rfl) (fun d v c a w h => h) (by assumption) ⟨?_, ?_, ?_, Or.inl ⟨?_, ?_⟩, ?_⟩
                           rotate_left
                           · simp only [List.getElem?_toArray, List.getElem?_cons_zero, List.getElem?_cons_succ]; rfl
                           rotate_left
                           · rfl
                           · intro w hSw; (try dsimp only at hSw); go_simp; try (with_reducible rfl)
                           simp only [Act.put, List.setIfInBounds_toArray, List.set_cons_zero, List.set_cons_succ])
                        | (refine wpAnyH_takeL 29 #[true, true, true, true, true, true, true, true, true, true, true, true, true, true, true, true, true, true, true, true, true, true, true, true, true, true, true, true, true, true, false, false, false, false, false, false] (by kernel_rfl) (by kernel_rfl) (by kernel_rfl) (by kernel_rfl) (fun d v c a w h => h) (by assumption) ⟨?_, ?_, undef, Or.inr ⟨?_, rfl⟩, ?_⟩
                           rotate_left
                           · simp only [List.getElem?_toArray, List.getElem?_cons_zero, List.getElem?_cons_succ]; rfl
                           · rfl
                           simp only [Act.put, List.setIfInBounds_toArray, List.set_cons_zero, List.set_cons_succ])
                      first
                        | (refine wpAnyH_takeL 30 #[true, true, true, true, true, true, true, true, true, true, true, true, true, true, true, true, true, true, true, true, true, true, true, true, true, true, true, true, true, true, true, false, false, false, false, false] (by kernel_rfl) (by kernel_rfl) (by kernel_rfl) (by kernel_rfl) (fun d v c a w h => h) (by assumption) ⟨?_, ?_, ?_, Or.inl ⟨?_, ?_⟩, ?_⟩
                           rotate_left
                           · simp only [List.getElem?_toArray, List.getElem?_cons_zero, List.getElem?_cons_succ]; rfl
                           rotate_left
                           · rfl
                           · intro w hSw; (try dsimp only at hSw); go_simp; try (with_reducible rfl)
                           simp only [Act.put, List.setIfInBounds_toArray, List.set_cons_zero, List.set_cons_succ])
                        | (refine wpAnyH_takeL 30 #[true, true, true, true, true, true, true, true, true, true, true, true, true, true, true, true, true, true, true, true, true, true, true, true, true, true, true, true, true, true, true, false, false, false, false, false] (by kernel_rfl) (by kernel_rfl) (by kernel_rfl) (by kernel_rfl) (fun d v c a w h => h) (by assumption) ⟨?_, ?_, undef, Or.inr ⟨?_, rfl⟩, ?_⟩
                           rotate_left
                           · simp only [List.getElem?_toArray, List.getElem?_cons_zero, List.getElem?_cons_succ]; rfl
                           · rfl
                           simp only [Act.put, List.setIfInBounds_toArray, List.set_cons_zero, List.set_cons_succ])
                      first
                        | (refine wpAnyH_takeL 31 #[true, true, true, true, true, true, true, true, true, true, true, true, true, true, true, true, true, true, true, true, true, true, true, true, true, true, true, true, true, true, true, true, false, false, false, false] (by kernel_rfl) (by kernel_rfl) (by kernel_rfl) (by kernel_rfl) (fun d v c a w h => h) (by assumption) ⟨?_, ?_, ?_, Or.inl ⟨?_, ?_⟩, ?_⟩
                           rotate_left
                           · simp only [List.getElem?_toArray, List.getElem?_cons_zero, List.getElem?_cons_succ]; rfl
                           rotate_left
                           · rfl
                           · intro w hSw; (try dsimp only at hSw); go_simp; try (with_reducible rfl)
                           simp only [Act.put, List.setIfInBounds_toArray, List.set_cons_zero, List.set_cons_succ])
                        | (refine wpAnyH_takeL 31 #[true, true, true, true, true, true, true, true, true, true, true, true, true, true, true, true, true, true, true, true, true, true, true, true, true, true, true, true, true, true, true, true, false, false, false, false] (by kernel_rfl) (by kernel_rfl) (by kernel_rfl) (by kernel_rfl) (fun d v c a w h => h) (by assumption) ⟨?_, ?_, undef, Or.inr ⟨?_, rfl⟩, ?_⟩
                           rotate_left
                           · simp only [List.getElem?_toArray, List.getElem?_cons_zero, List.getElem?_cons_succ]; rfl
                           · rfl
                           simp only [Act.put, List.setIfInBounds_toArray, List.set_cons_zero, List.set_cons_succ])
                      first
                        | (refine wpAnyH_takeL 32 #[true, true, true, true, true, true, true, true, true, true, true, true, true, true, true, true, true, true, true, true, true, true, true, true, true, true, true, true, true, true, true, true, true, false, false, false] (by kernel_rfl) (by kernel_rfl) (by kernel_rfl) (by kernel_rfl) (fun d v c a w h => h) (by assumption) ⟨?_, ?_, ?_, Or.inl ⟨?_, ?_⟩, ?_⟩
                           rotate_left
                           · simp only [List.getElem?_toArray, List.getElem?_cons_zero, List.getElem?_cons_succ]; rfl
                           rotate_left
                           · rfl
                           · intro w hSw; (try dsimp only at hSw); go_simp; try (with_reducible rfl)
                           simp only [Act.put, List.setIfInBounds_toArray, List.set_cons_zero, List.set_cons_succ])
                        | (refine wpAnyH_takeL 32 #[true, true, true, true, true, true, true, true, true, true, true, true, true, true, true, true, true, true, true, true, true, true, true, true, true, true, true, true, true, true, true, true, true, false, false, false] (by kernel_rfl) (by kernel_rfl) (by kernel_rfl) (by kernel_rfl) (fun d v c a w h => h) (by assumption) ⟨?_, ?_, undef, Or.inr ⟨?_, rfl⟩, ?_⟩
                           rotate_left
                           · simp only [List.getElem?_toArray, List.getElem?_cons_zero, List.getElem?_cons_succ]; rfl
                           · rfl
                           simp only [Act.put, List.setIfInBounds_toArray, List.set_cons_zero, List.set_cons_succ])
                      refine wpAnyH_oneL 33 #[true, true, true, true, true, true, true, true, true, true, true, true, true, true, true, true, true, true, true, true, true, true, true, true, true, true, true, true, true, true, true, true, true, true, false, false] (by kernel_rfl) (by kernel_rfl) ⟨?_, ?_, fun K hK => ?_⟩
                      rotate_left
                      · simp only [List.getElem?_toArray, List.getElem?_cons_zero, List.getElem?_cons_succ]; rfl
                      rw [if_pos (by rfl)]
                      go_simp
                      go_at_call 22; refine (AL.out _ _ H6.out).mono ?_; rintro e w7 ⟨rfl, hb7⟩; replace H6 := Lib.hid (H6.out.below hb7); clear hb7
                      clear hHeld
                      refine hK.out _ _ H6.out.pc (fun hHeld => ?_)
                      clear hK K
                      try simp only [Act.put, List.setIfInBounds_toArray, List.set_cons_zero, List.set_cons_succ]
                      first
                        | (refine wpAnyH_takeL 34 #[true, true, true, true, true, true, true, true, true, true, true, true, true, true, true, true, true, true, true, true, true, true, true, true, true, true, true, true, true, true, true, true, true, true, true, false] (by kernel_rfl) (by kernel_rfl) (by kernel_rfl) (by kernel_rfl) (fun d v c a w h => h) (by assumption) ⟨?_, ?_, ?_, Or.inl ⟨?_, ?_⟩, ?_⟩
                           rotate_left
                           · simp only [List.getElem?_toArray, List.getElem?_cons_zero, List.getElem?_cons_succ]; rfl
                           rotate_left
                           · rfl
                           · intro w hSw; (try dsimp only at hSw); go_simp; try (with_reducible rfl)
                           simp only [Act.put, List.setIfInBounds_toArray, List.set_cons_zero, List.set_cons_succ])
                        | (refine wpAnyH_takeL 34 #[true, true, true, true, true, true, true, true, true, true, true, true, true, true, true, true, true, true, true, true, true, true, true, true, true, true, true, true, true, true, true, true, true, true, true, false] (by kernel_rfl) (by kernel_rfl) (by kernel_rfl) (by kernel_rfl) (fun d v c a w h => h) (by assumption) ⟨?_, ?_, undef, Or.inr ⟨?_, rfl⟩, ?_⟩
                           rotate_left
                           · simp only [List.getElem?_toArray, List.getElem?_cons_zero, List.getElem?_cons_succ]; rfl
                           · rfl
                           simp only [Act.put, List.setIfInBounds_toArray, List.set_cons_zero, List.set_cons_succ])
                      as_aux_lemma =>
                        first
                          | (refine wpAnyH_takeL 35 #[true, true, true, true, true, true, true, true, true, true, true, true, true, true, true, true, true, true, true, true, true, true, true, true, true, true, true, true, true, true, true, true, true, true, true, true] (by kernel_rfl) (by kernel_rfl) (by kernel_rfl) (by kernel_rfl) (fun d v c a w h => h) (by assumption) ⟨?_, ?_, ?_, Or.inl ⟨?_, ?_⟩, ?_⟩
                             rotate_left
                             · simp only [List.getElem?_toArray, List.getElem?_cons_zero, List.getElem?_cons_succ]; rfl
                             rotate_left
                             · rfl
                             · intro w hSw; (try dsimp only at hSw); go_simp; try (with_reducible rfl)
                             simp only [Act.put, List.setIfInBounds_toArray, List.set_cons_zero, List.set_cons_succ])
                          | (refine wpAnyH_takeL 35 #[true, true, true, true, true, true, true, true, true, true, true, true, true, true, true, true, true, true, true, true, true, true, true, true, true, true, true, true, true, true, true, true, true, true, true, true] (by kernel_rfl) (by kernel_rfl) (by kernel_rfl) (by kernel_rfl) (fun d v c a w h => h) (by assumption) ⟨?_, ?_, undef, Or.inr ⟨?_, rfl⟩, ?_⟩
                             rotate_left
                             · simp only [List.getElem?_toArray, List.getElem?_cons_zero, List.getElem?_cons_succ]; rfl
                             · rfl
                             simp only [Act.put, List.setIfInBounds_toArray, List.set_cons_zero, List.set_cons_succ])
                        as_aux_lemma =>
                          refine wpAnyH_done (by kernel_rfl) (NoPanic.normal ?_) _
                          have hlw := H6.out.bel.size
                          clear hHeld
                          go_wp2_with (go_at_call 28; refine (callsIn_wide.1 (all_in 3 _ _)).mono ?_; rintro e w' ⟨rfl, rfl⟩)
                          refine (wpIn_wide (n := n)).1 ?_
                          have h1 : 1 ≤ n := by have := HN.out; omega
                          have bA : Boxed ((w7.alloc (.cells #[.int .i64 0] 3)).alloc (.cells #[.pointer (some ⟨b, 0, none⟩)] 27)) w7.heap.size 3 (.int .i64 ((0 : Nat) : Int)) := (Boxed.new w7 3 (.int .i64 0)).alloc _
                          have bN := Boxed.new (w7.alloc (.cells #[.int .i64 0] 3)) 27 (.pointer (some ⟨b, 0, none⟩))
                          rw [World.size_alloc] at bN
                          have H0 := Lib.hid (H6.out.below (below_alloc (below_alloc (Below.refl _ _) (.cells #[.int .i64 0] 3)) (.cells #[.pointer (some ⟨b, 0, none⟩)] 27)))
                          have hbl := H6.out.two.f.lt
                          have hrl := (Array.getElem?_eq_some_iff.1 H6.out.res).1
                          have hz0 : ((w7.alloc (.cells #[.int .i64 0] 3)).alloc (.cells #[.pointer (some ⟨b, 0, none⟩)] 27)).heap.size = w7.heap.size + 1 + 1 := by simp
                          clear H6
                          generalize w7.heap.size = aB at *
                          generalize (w7.alloc (.cells #[.int .i64 0] 3)).alloc (.cells #[.pointer (some ⟨b, 0, none⟩)] 27) = w0 at *
                          have ALV := Lib.hid (fun (W : World) (i : Int) (h : St3 w W b g r p F) => h.alive OK.out i)
                          have hbA := Lib.hid bA
                          refine' wpIn_rangeFunc_ownG rfl h1 (gf := 38) (lb := #[.pointer (some ⟨aB + 1, 0, none⟩)]) rfl trivial (enters_of Try.func38 (by kernel_rfl) rfl)
                            (all_stops (n - 1) (by have := HN.out; omega) (aB + 1) b F _ bN H0.out.two.f) kp_t (kp_b (by omega) (by omega)) (Below.refl _ _) (fun _ => rfl)
                            (RI w0 aB F) (fun _ pre _ => ¬ (pre <+: aliveL F 16)) (ri_own (by omega)) (fun c => ownFrom_pure _ _) ⟨⟨0, bA, by omega, fun _ => rfl⟩, Chg.refl _ _⟩ _ ?assign ?body ?done ?stop
                          case assign =>
                            intro l x W K hK
                            gi_wp2
                            exact hK
                          case stop =>
                            rintro D c pre W _ hp hix _
                            exact absurd hp hix
                          case body =>
                            rintro l pre x W ⟨⟨a, hb, ha, hp⟩, hc⟩ hlt
                            have HP := Lib.hid hp
                            clear hp
                            gi_wp2
                            gi_loopw [] (fun wr => ∃ m : Nat, a ≤ m ∧ m ≤ 16 ∧ Hid (Boxed wr aB 3 (.int .i64 m)) ∧ Hid (Chg (· = aB) W wr) ∧ Hid (∀ j : Nat, a ≤ j → j < m → aliveF F (j : Int) = false)) (fun wr => 16 - (intOf ((wr.cell? ⟨aB, 0, none⟩).getD undef)).toNat)
                            case atStart => exact ⟨a, Nat.le_refl _, ha, Lib.hid hb, Lib.hid (Chg.refl _ _), Lib.hid (fun j h1 h2 => by omega)⟩
                            case round =>
                              obtain ⟨k, hk1, hk2, hB, hC, hN⟩ := hrel
                              have HS := Lib.hid (H0.out.over (hc.trans hC.out) ⟨_, hbA.out⟩ hlw)
                              have hpc := HS.out.pc
                              have hac := Boxed.cell (W := wr) (B := aB) (t := 3) (v := .int .i64 k) hB.out
                              have haf := Boxed.frozen (W := wr) (B := aB) (t := 3) (v := .int .i64 k) hB.out
                              have hrc := Boxed.cell (W := wr) (B := r) (t := 4) (v := .bool false) HS.out.res
                              have hrf := Boxed.frozen (W := wr) (B := r) (t := 4) (v := .bool false) HS.out.res
                              by_cases h16 : k < 16
                              · have AC := ALV.out wr (k : Int) HS.out
                                cases hal : aliveF F (k : Int) with
                                | false =>
                                  rw [hal] at AC
                                  replace AC := Lib.hid AC
                                  replace hal := Lib.hid hal
                                  have hB2 := Lib.hid (boxed_set hB.out (.int .i64 ((k : Int) + 1)))
                                  have hC2 := Lib.hid (Chg.setCell hC.out (p := { block := aB, off := 0 }) (show aB = aB from rfl) (.int .i64 ((k : Int) + 1)))
                                  have hm2 := Boxed.cell hB2.out
                                  gi_wp2_with (refine ⟨trivial, (fun h => by cases h), ?_⟩; gi_at_call 29; refine (CallsIn.inRound l (callsIn_wide.2 AC.out)).mono ?_; rintro e w' ⟨rfl, rfl⟩)
                                  refine ⟨⟨k + 1, by omega, by omega, hB2, hC2, Lib.hid (fun j h1 h2 => ?_)⟩, ?_⟩
                                  · by_cases e : j = k
                                    · subst e; exact hal.out
                                    · exact hN.out j h1 (by omega)
                                  · rw [hm2, hac]
                                    simp [intOf]
                                    omega
                                | true =>
                                  rw [hal] at AC
                                  replace AC := Lib.hid AC
                                  replace hal := Lib.hid hal
                                  by_cases hx : x = (k : Int)
                                  · subst hx
                                    have hB2 := Lib.hid (boxed_set hB.out (.int .i64 ((k : Int) + 1)))
                                    have hC2 := Lib.hid (Chg.setCell hC.out (p := { block := aB, off := 0 }) (show aB = aB from rfl) (.int .i64 ((k : Int) + 1)))
                                    gi_wp2_with (refine ⟨trivial, (fun h => by cases h), ?_⟩; gi_at_call 29; refine (CallsIn.inRound l (callsIn_wide.2 AC.out)).mono ?_; rintro e w' ⟨rfl, rfl⟩)
                                    have hs0 := hc.size
                                    exact ⟨keeps_of_chg hC2.out (by omega), ⟨hC2.out.block b (by omega) (by omega), hC2.out.block (aB + 1) (by omega) (by omega)⟩, ⟨k + 1, hB2.out, by omega, fun _ => by rw [atOf_snoc]; rfl⟩, hc.trans hC2.out⟩
                                  · have hx1 : (x == (k : Int)) = false := by simpa using hx
                                    have hx2 : (x != (k : Int)) = true := by simpa [bne] using hx
                                    gi_wp2_with (refine ⟨trivial, (fun h => by cases h), ?_⟩; gi_at_call 29; refine (CallsIn.inRound l (callsIn_wide.2 AC.out)).mono ?_; rintro e w' ⟨rfl, rfl⟩)
                                    exact ⟨(keeps_of_chg hC.out (by omega)).trans (KeepsFrom.of_grownBy (grownBy_setCell' _ r _) (fun j e => by cases e; omega)), not_next HP.out hN.out (.inr ⟨hal.out, hx⟩) hk1⟩
                              · obtain rfl : k = 16 := by omega
                                gi_wp2
                                refine ⟨trivial, ?_⟩
                                gi_wp2
                                exact ⟨(keeps_of_chg hC.out (by omega)).trans (KeepsFrom.of_grownBy (grownBy_setCell' _ r _) (fun j e => by cases e; omega)), not_next HP.out hN.out (.inl rfl) hk1⟩
                          case done =>
                            rintro D ys W hD rfl ⟨⟨a, hb, ha, hp⟩, hc⟩ hK
                            obtain ⟨a2, h1a, h2a, h3a⟩ := atOf_alive F 16
                            obtain rfl : a = a2 := by have := hp List.prefix_rfl; omega
                            have HA := Lib.hid h3a
                            clear hp h1a h2a h3a
                            have hKh := Lib.hid hK
                            clear hK
                            go_wp2
                            go_loopw [] (fun wr => ∃ k : Nat, a ≤ k ∧ k ≤ 16 ∧ Hid (Boxed wr aB 3 (.int .i64 k)) ∧ Hid (Chg (· = aB) W wr)) (fun wr => 16 - (intOf ((wr.cell? ⟨aB, 0, none⟩).getD undef)).toNat)
                            case atStart => exact ⟨a, Nat.le_refl _, ha, Lib.hid hb, Lib.hid (Chg.refl _ _)⟩
                            case round =>
                              obtain ⟨k, hk1, hk2, hB, hC⟩ := hrel
                              have HS := Lib.hid (H0.out.over (hc.trans hC.out) ⟨_, hbA.out⟩ hlw)
                              have hpc := HS.out.pc
                              have hac := Boxed.cell (W := wr) (B := aB) (t := 3) (v := .int .i64 k) hB.out
                              have haf := Boxed.frozen (W := wr) (B := aB) (t := 3) (v := .int .i64 k) hB.out
                              have hrc := Boxed.cell (W := wr) (B := r) (t := 4) (v := .bool false) HS.out.res
                              have hrf := Boxed.frozen (W := wr) (B := r) (t := 4) (v := .bool false) HS.out.res
                              by_cases h16 : k < 16
                              · have AC := ALV.out wr (k : Int) HS.out
                                rw [HA.out k hk1 h16] at AC
                                replace AC := Lib.hid AC
                                have hB2 := Lib.hid (boxed_set hB.out (.int .i64 ((k : Int) + 1)))
                                have hC2 := Lib.hid (Chg.setCell hC.out (p := { block := aB, off := 0 }) (show aB = aB from rfl) (.int .i64 ((k : Int) + 1)))
                                have hm2 := Boxed.cell hB2.out
                                go_wp2_with (go_at_call 29; refine AC.out.mono ?_; rintro e w' ⟨rfl, rfl⟩)
                                refine ⟨⟨k + 1, by omega, by omega, hB2, hC2⟩, ?_⟩
                                rw [hm2, hac]
                                simp [intOf]
                                omega
                              · obtain rfl : k = 16 := by omega
                                go_wp2
                                have hDr : r ≠ D := by omega
                                have hW : wr.heap[D]? = some (.deferred (some [])) := hC.out.old hKh.out (by show D ≠ aB; omega)
                                have hD1 : (wr.setCell { block := r, off := 0 } (.bool true)).heap[D]? = some (.deferred (some [])) := (Below.heap_setCell wr { block := r, off := 0 } _ D (by show D ≠ r; omega)).trans hW
                                refine ⟨by simp, .inl ⟨_, _, rfl, run_takeDeferred hD1, ?_⟩⟩
                                have hB1 : Below w.heap.size w (wr.setCell { block := r, off := 0 } (.bool true)) := HS.out.bel.setCell (p := { block := r, off := 0 }) HS.out.lor _
                                have hV : (wr.setCell { block := r, off := 0 } (.bool true)).heap[r]? = some (.cells #[.bool true] 4) := boxed_set HS.out.res _
                                have hV2 : ((wr.setCell { block := r, off := 0 } (.bool true)).putObj D (Obj.deferred none)).heap[r]? = some (.cells #[.bool true] 4) := by
                                  rw [← hV]
                                  exact World.putObj_heap_other hDr
                                exact ⟨_, results_bool rfl _ _ r (.bool true) _ rfl (Boxed.cell (t := 4) hV2) Try.underlying4 rfl, rfl, hB1.trans (belowK_b (w := w) (Nat.le_refl _) _ D _ _ (by omega) hD1 rfl rfl)⟩
set_option maxRecDepth 100000 in
theorem plays_skip (A0 : Option Addr) (c0 k : Nat) (id m : Int) (w : World) (h : 30 < k) :
    Calls Try.prog 8 #[.slice A0 k c0, .int .i64 id, .int .u64 m] w fun e w' => e = .returned (.bool true) ∧ Below w.heap.size w w' := by
  refine (callsIn_wide (n := 3)).1 (callsIn_of_wp_marks Try.func8 rfl trivial ?_ rfl)
  refine wpIn_wide.2 ?_
  simp only [Try.ntmps8, List.size_toArray, List.length_cons, List.length_nil, Nat.reduceAdd, Nat.reduceSub, Array.replicate_succ, Array.replicate_zero, List.push_toArray, List.append_toArray, List.nil_append, List.cons_append]
  go_wp2_with (go_at_call 10; refine (awake_calls _).mono ?_; rintro e w1 ⟨rfl, hb1⟩; have hr1 : Boxed w1 w.heap.size 4 (.bool false) := (hb1.block w.heap.size (by simp)).trans (heap_alloc_new w (.cells #[.bool false] 4)); have hrc := hr1.cell; have hrf := hr1.frozen; replace hb1 := Lib.hid hb1; replace hr1 := Lib.hid hr1)
  have hB1 : Below w.heap.size w (w1.setCell { block := w.heap.size, off := 0 } (.bool true)) := ((below_alloc (Below.refl _ w) (.cells #[.bool false] 4)).trans (hb1.out.mono (by simp))).setCell (p := { block := w.heap.size, off := 0 }) (Nat.le_refl _) _
  have hV := boxed_set hr1.out (.bool true)
  exact ⟨_, results_bool rfl _ _ w.heap.size (.bool true) _ rfl (Boxed.cell (t := 4) hV) Try.underlying4 rfl, rfl, hB1⟩
theorem plays_any (A0 : Option Addr) (c0 : Nat) (l : List Ac) (id m : Int) (w : World) (hr : Kd.C kAc w A0 l.length l) (hwf : ∀ a ∈ l, ActWf a) :
    Calls Try.prog 8 #[.slice A0 l.length c0, .int .i64 id, .int .u64 m] w fun e w' => e = .returned (.bool true) ∧ Below w.heap.size w w' := by
  by_cases h : l.length ≤ 30
  · exact (callsIn_wide (n := 3)).1 (plays_in 3 (Nat.le_refl _) A0 c0 l id m w hr hwf h)
  · exact plays_skip A0 c0 l.length id m w (by omega)
end Go.Proofs.Ytaolpniigjmccaa.All
