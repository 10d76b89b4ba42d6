/-
  The law CalautoMore tells true of every input. No condition.
-/
import Derived.Test.YtonlbeonblpblaaWhy
import Derived.Test.YtonlbeonblpblaaHeldZ
namespace Go.Proofs.Ytonlbeonblpblaa.All
open Go.RowKit Go.Proofs.YtonlbeonblpblaaW.PrintWords Go.Proofs.YtonlbeonblpblaaW.PrintLast Go.Proofs.YtonlbeonblpblaaW.PrintMore Go.Proofs.Ytonlbeonblpblaa.Wd
set_option linter.unusedVariables false
set_option linter.unusedSimpArgs false
private theorem ym (motive : Option Value → Sort _) (h1 : (b : Bool) → motive (some (.bool b))) (h2 : (x : Option Value) → motive x) : Go.yielded.match_1 motive (some undef) h1 h2 = h2 (some undef) := rfl
attribute [local go_sem, local simp] ym
theorem blk_alloc' {w : World} {o x : Obj} {q : Nat} (h : w.heap[q]? = some x) : (w.alloc o).heap[q]? = some x := ((below_alloc (Below.refl _ w) o).block q (lt_heap h)).trans h
section
variable (w : World) (a b c : Obj)
theorem hn22 : ((w.alloc a).alloc b).heap[w.heap.size + 1]? = some b := by have := heap_alloc_new (w.alloc a) b; rwa [World.size_alloc] at this
theorem hn21 : ((w.alloc a).alloc b).heap[w.heap.size]? = some a := blk_alloc' (heap_alloc_new w a)
theorem hn33 : (((w.alloc a).alloc b).alloc c).heap[w.heap.size + 1 + 1]? = some c := by have := heap_alloc_new ((w.alloc a).alloc b) c; rwa [World.size_alloc, World.size_alloc] at this
theorem hn32 : (((w.alloc a).alloc b).alloc c).heap[w.heap.size + 1]? = some b := blk_alloc' (hn22 w a b)
theorem hn31 : (((w.alloc a).alloc b).alloc c).heap[w.heap.size]? = some a := blk_alloc' (hn21 w a b)
end
theorem zkeep {W w' : World} {b1 s1 n1 g : Nat} {v : Value} {xs1 : List Value} {cs : Array Value} (ho : W.ownsRow b1 24 s1 v n1 xs1) (hz : W.heap[g]? = some (.cells cs 32)) (hg : W.grownBy w' v.ownBlock) : w'.heap[g]? = some (.cells cs 32) :=
  (hg.block g (lt_heap hz) (fun he => by
    obtain ⟨cur', hc⟩ := own_size ho _ he.symm
    rw [hz] at hc
    injection hc with hc
    injection hc with _ hc
    exact absurd hc (by decide))).trans hz
theorem zkeep2 {W w' : World} {v : Value} (hg : W.grownBy w' v.ownBlock) {b1 s1 n1 g : Nat} {xs1 : List Value} {cs : Array Value} (ho : W.ownsRow b1 24 s1 v n1 xs1) (hz : W.heap[g]? = some (.cells cs 32)) : w'.heap[g]? = some (.cells cs 32) := zkeep ho hz hg
theorem zset {W : World} {g : Nat} {a b c : Value} (hz : W.heap[g]? = some (.cells #[a, b, c] 32)) (x y z : Value) : (((W.setCell { block := g, off := 0 } x).setCell { block := g, off := 1 } y).setCell { block := g, off := 2 } z).heap[g]? = some (.cells #[x, y, z] 32) ∧ Chg (· = g) W (((W.setCell { block := g, off := 0 } x).setCell { block := g, off := 1 } y).setCell { block := g, off := 2 } z) := by
  refine ⟨?_, Chg.setCell (S := (· = g)) (Chg.setCell (S := (· = g)) (Chg.setCell (S := (· = g)) (Chg.refl _ _) (p := { block := g, off := 0 }) rfl _) (p := { block := g, off := 1 }) rfl _) (p := { block := g, off := 2 }) rfl _⟩
  simp [World.setCell, Array.getElem?_modify]
  simp [hz]
theorem un_alloc {a w : World} {o : Obj} (h : Below a.heap.size a (w.alloc o)) (hs : a.heap.size ≤ w.heap.size) : Below a.heap.size a w :=
  ⟨h.os, h.tape, h.output, hs, fun k hk => by
    have h1 := h.block k hk
    rw [← h1]
    exact ((below_alloc (Below.refl _ w) o).block k (Nat.lt_of_lt_of_le hk hs)).symm⟩
theorem lw_mk2 {w w9 w10 : World} {R : List Ru} {M : List It} {A : Option Addr} {c : Nat} {ks : List (Ru × Nat)} {base b kb q : Nat} (rt : Rt R) (hk : KAt w9 kb A c ks) (hm : ks.map (·.1) = ksOf R) (hx : w9.heap[q]? = some (.cells #[.slice A ks.length c, .int .i64 (neverF R).1, .bool (neverF R).2] 32)) (hbw : Below w.heap.size w w9) (hl1 : w9.heap.size ≤ base) (hl2 : w9.heap.size ≤ b) (hl3 : base ≤ w10.heap.size) (ht : ∃ A c, TAt w10 base b A c M) (hb : Below w9.heap.size w9 w10) : LW w w10 R M base b kb q A c ks :=
  ⟨⟨ht, hk.below hb, hbw.trans (hb.mono hbw.size), Nat.le_trans hbw.size hl1, Nat.le_trans hbw.size hl2, hl3⟩, (hb.block _ (lt_heap hx)).trans hx, rt, hm⟩
/-- What the law's end wants. -/
structure MoreH (w wr : World) (R : List Ru) (r : Ru) (M : List It) (base b : Nat) (num : Int) (k1 q1 : Nat) (A : Option Addr) (c : Nat) (ks : List (Ru × Nat)) (k2 q2 : Nat) (A3 : Option Addr) (c3 : Nat) (ks3 : List (Ru × Nat)) : Prop where
  a : LW w wr R M base b k1 q1 A c ks
  b : LW w wr (R ++ [r]) M base b k2 q2 A3 c3 ks3
  bx : Bo wr w.heap.size r
  g : Good M
  ge : r.k ≠ 4 → tl R M num ≤ tl (R ++ [r]) M num
  nv : r.k = 4 → tl (R ++ [r]) M num ≤ tl R M num ∧ (hit M num = true → tl (R ++ [r]) M num ≤ minM M num + r.f ∧ (tl (R ++ [r]) M num = tl R M num ∨ tl (R ++ [r]) M num = minM M num + r.f))
  wr : 0 ≤ minM M num ∧ minM M num ≤ 1073741824
  rf : 1 ≤ r.f ∧ r.f ≤ 1073741824
section
variable {w wr w2 : World} {R : List Ru} {r : Ru} {M : List It} {base b k1 q1 c k2 q2 c3 : Nat} {num : Int} {A A3 : Option Addr} {ks ks3 : List (Ru × Nat)}
theorem MoreH.below (h : MoreH w wr R r M base b num k1 q1 A c ks k2 q2 A3 c3 ks3) (hb : Below wr.heap.size wr w2) : MoreH w w2 R r M base b num k1 q1 A c ks k2 q2 A3 c3 ks3 := ⟨h.a.below hb, h.b.below hb, bo_below h.bx hb, h.g, h.ge, h.nv, h.wr, h.rf⟩
theorem MoreH.t1 (h : MoreH w wr R r M base b num k1 q1 A c ks k2 q2 A3 c3 ks3) : ∀ w', MoreH w w' R r M base b num k1 q1 A c ks k2 q2 A3 c3 ks3 → Calls Try.prog 16 #[.agg #[.slice A ks.length c, .int .i64 (neverF R).1, .bool (neverF R).2], .pointer (some ⟨b, 0, none⟩), .int .u64 num] w' fun e w'' => e = .returned (.int .i64 (tl R M num)) ∧ Below w'.heap.size w' w'' := fun w' h' => h'.a.till h.g num
theorem MoreH.t2 (h : MoreH w wr R r M base b num k1 q1 A c ks k2 q2 A3 c3 ks3) : ∀ w', MoreH w w' R r M base b num k1 q1 A c ks k2 q2 A3 c3 ks3 → Calls Try.prog 16 #[.agg #[.slice A3 ks3.length c3, .int .i64 (neverF (R ++ [r])).1, .bool (neverF (R ++ [r])).2], .pointer (some ⟨b, 0, none⟩), .int .u64 num] w' fun e w'' => e = .returned (.int .i64 (tl (R ++ [r]) M num)) ∧ Below w'.heap.size w' w'' := fun w' h' => h'.b.till h.g num
theorem MoreH.mn (h : MoreH w wr R r M base b num k1 q1 A c ks k2 q2 A3 c3 ks3) : ∀ w', MoreH w w' R r M base b num k1 q1 A c ks k2 q2 A3 c3 ks3 → Calls Try.prog 17 #[.pointer (some ⟨b, 0, none⟩), .int .u64 num] w' fun e w'' => e = .returned (.tuple #[.int .i64 (minM M num), .bool (hit M num)]) ∧ Below w'.heap.size w' w'' := fun w' h' => h'.a.min h.g num
theorem MoreH.cells (h : MoreH w wr R r M base b num k1 q1 A c ks k2 q2 A3 c3 ks3) : (wr.cell? { block := q1, off := 0 } = some (.slice A ks.length c) ∧ wr.cell? { block := q1, off := 1 } = some (.int .i64 (neverF R).1) ∧ wr.cell? { block := q1, off := 2 } = some (.bool (neverF R).2)) ∧ wr.cell? { block := q2, off := 0 } = some (.slice A3 ks3.length c3) ∧ wr.cell? { block := q2, off := 1 } = some (.int .i64 (neverF (R ++ [r])).1) ∧ wr.cell? { block := q2, off := 2 } = some (.bool (neverF (R ++ [r])).2) := ⟨h.a.cells, h.b.cells⟩
end
theorem own_e {W : World} {base g : Nat} (hg : W.heap[g]? = some (.cells #[] 24)) (hb : base ≤ g) : W.ownsRow base 24 3 (.slice (some ⟨g, 0, none⟩) 0 0) 0 [] :=
  ⟨by simp, .inr ⟨g, 0, #[], rfl, hb, hg, Nat.le_refl _, Nat.zero_le _, by simp, by simp⟩⟩
set_option maxRecDepth 100000 in
set_option maxHeartbeats 4000000 in
theorem more_skip (A0 P : Option Addr) (c0 cs n : Nat) (R : List Ru) (r : Ru) (num : Int) (w : World) (hR : RuRow w w.heap.size A0 R) (hl : R.length ≤ maxLen) (h : 30 < n ∨ 15 < R.length ∨ rightL R = false ∨ rightB r = false) :
    Calls Try.prog 3 #[.slice A0 R.length c0, .agg #[.int .i64 r.k, .int .i64 r.l, .int .i64 r.f], .slice P n cs, .int .u64 num] w fun e w' => e = .returned (.bool true) ∧ Below w.heap.size w w' := by
  replace hR := Lib.hid hR
  have hb0 := Lib.hid (below_alloc (Below.refl w.heap.size w) (.cells #[.int .i64 r.k, .int .i64 r.l, .int .i64 r.f] 24))
  have bx0 : Hid (Bo (w.alloc (.cells #[.int .i64 r.k, .int .i64 r.l, .int .i64 r.f] 24)) w.heap.size r) := Lib.hid (heap_alloc_new w _)
  by_cases h0 : 30 < n
  · have q0 : decide ((30 : Int) < (n : Int)) = true := decide_eq_true (by omega)
    clear h
    go_enter Try.func3, Try.ntmps3
    go_wp2_with (go_at_call 11; refine (awake_calls _).mono ?_; rintro e w1 ⟨rfl, hb1⟩; have bx1 := Lib.hid (bo_below bx0.out hb1); have hcb := bx1.out.cells; replace hb1 := Lib.hid (hb0.out.trans (hb1.mono hb0.out.size)))
    go_ret
    exact ⟨rfl, hb1.out⟩
  · have q0 : decide ((30 : Int) < (n : Int)) = false := decide_eq_false (by omega)
    replace h := h.resolve_left h0
    by_cases h1 : 15 < R.length
    · have q1 : decide ((15 : Int) < (R.length : Int)) = true := decide_eq_true (by omega)
      clear h
      go_enter Try.func3, Try.ntmps3
      go_wp2_with (go_at_call 11; refine (awake_calls _).mono ?_; rintro e w1 ⟨rfl, hb1⟩; have bx1 := Lib.hid (bo_below bx0.out hb1); have hcb := bx1.out.cells; replace hb1 := Lib.hid (hb0.out.trans (hb1.mono hb0.out.size)))
      go_ret
      exact ⟨rfl, hb1.out⟩
    · have q1 : decide ((15 : Int) < (R.length : Int)) = false := decide_eq_false (by omega)
      replace h := h.resolve_left h1
      cases hr : rightL R with
      | false =>
        have hv := Lib.hid (rightV_no hr)
        clear h
        go_enter Try.func3, Try.ntmps3
        go_wp2_with (first | (go_at_call 11; refine (awake_calls _).mono ?_; rintro e w1 ⟨rfl, hb1⟩; have bx1 := Lib.hid (bo_below bx0.out hb1); have hcb := bx1.out.cells; replace hb1 := Lib.hid (hb0.out.trans (hb1.mono hb0.out.size))) | (go_at_call 12; refine (right16_calls (hR.out.up hb1.out) hl).mono ?_; rintro e w2 ⟨rfl, hb2⟩; rw [hv.out]; have bx2 := Lib.hid (bo_below bx1.out hb2); have hcb2 := bx2.out.cells; replace hb2 := Lib.hid (hb1.out.trans (hb2.mono hb1.out.size))))
        go_ret
        exact ⟨rfl, hb2.out⟩
      | true =>
        have hv := Lib.hid (rightV_yes hr)
        have hrb := Lib.hid (h.resolve_left (by rw [hr]; decide))
        clear h
        go_enter Try.func3, Try.ntmps3
        go_wp2_with (first | (go_at_call 11; refine (awake_calls _).mono ?_; rintro e w1 ⟨rfl, hb1⟩; have bx1 := Lib.hid (bo_below bx0.out hb1); have hcb := bx1.out.cells; replace hb1 := Lib.hid (hb0.out.trans (hb1.mono hb0.out.size))) | (go_at_call 12; refine (right16_calls (hR.out.up hb1.out) hl).mono ?_; rintro e w2 ⟨rfl, hb2⟩; rw [hv.out]; have bx2 := Lib.hid (bo_below bx1.out hb2); have hcb2 := bx2.out.cells; replace hb2 := Lib.hid (hb1.out.trans (hb2.mono hb1.out.size))) | (go_at_call 13; refine (right_calls r _).mono ?_; rintro e w3 ⟨rfl, hb3⟩; rw [hrb.out]; have bx3 := Lib.hid (bo_below bx2.out hb3); have hcb3 := bx3.out.cells; replace hb3 := Lib.hid (hb2.out.trans (hb3.mono hb2.out.size))))
        go_ret
        exact ⟨rfl, hb3.out⟩
end Go.Proofs.Ytonlbeonblpblaa.All
