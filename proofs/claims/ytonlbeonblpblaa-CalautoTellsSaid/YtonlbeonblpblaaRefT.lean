/-
  The document's table in Go's memory, and a moment more in it where it goes through. No condition but that it lies as its rows say.
-/
import Derived.Test.YtonlbeonblpblaaRight16
namespace Go.Proofs.Ytonlbeonblpblaa.All
open Go.RowKit Go.Proofs.YtonlbeonblpblaaW.PrintWords Go.Proofs.YtonlbeonblpblaaW.PrintLast Go.Proofs.YtonlbeonblpblaaW.PrintMore Go.Proofs.Ytonlbeonblpblaa.Wd
set_option linter.unusedVariables false
set_option linter.unusedSimpArgs false
private theorem ym (motive : Option Value → Sort _) (h1 : (b : Bool) → motive (some (.bool b))) (h2 : (x : Option Value) → motive x) : Go.yielded.match_1 motive (some undef) h1 h2 = h2 (some undef) := rfl
attribute [local go_sem, local simp] ym
/-- Values in a row of a type, for good. -/
def RowT (w : World) (A : Option Addr) (t : TypeId) (xs : List Value) : Prop := 0 < xs.length → ∃ q cs, A = some ⟨q, 0, none⟩ ∧ w.heap[q]? = some (.cells cs t) ∧ ∀ (j : Nat) (u : Value), xs[j]? = some u → cs[j]? = some u
theorem RowT.below {w w2 : World} {A : Option Addr} {t : TypeId} {xs : List Value} (h : RowT w A t xs) (hb : Below w.heap.size w w2) : RowT w2 A t xs := fun h0 => by
  obtain ⟨q, cs, h1, h2, h3⟩ := h h0
  exact ⟨q, cs, h1, (hb.block q (lt_heap h2)).trans h2, h3⟩
theorem RowT.kept {w w2 : World} {A : Option Addr} {t : TypeId} {xs : List Value} (h : RowT w A t xs) (hk : ∀ (q : Nat) cs, w.heap[q]? = some (Obj.cells cs t) → w2.heap[q]? = some (Obj.cells cs t)) : RowT w2 A t xs := fun h0 => by
  obtain ⟨q, cs, h1, h2, h3⟩ := h h0
  exact ⟨q, cs, h1, hk q cs h2, h3⟩
theorem RowT.at_ {w : World} {A : Option Addr} {t : TypeId} {xs : List Value} (h : RowT w A t xs) {k : Nat} (hk : k < xs.length) : ∃ q, A = some ⟨q, 0, none⟩ ∧ w.cell? { block := q, off := k } = some xs[k] := by
  obtain ⟨q, cs, h1, h2, h3⟩ := h (by omega)
  exact ⟨q, h1, (cell_of_row w q k cs _ (0, 0) h2).trans (h3 _ _ (List.getElem?_eq_getElem hk))⟩
theorem RowT.reads {w : World} {A : Option Addr} {t : TypeId} {xs : List Value} (h : RowT w A t xs) : Reads w w.heap.size 1 A xs.length xs := by
  refine ⟨by simp, fun h0 => ?_⟩
  obtain ⟨q, cs, h1, h2, h3⟩ := h h0
  refine ⟨_, h1, lt_heap h2, fun j u hu => ?_⟩
  have e : Addr.add ⟨q, 0, none⟩ j = ⟨q, j, none⟩ := by
    unfold Addr.add
    split
    · subst_vars; rfl
    · simp
  rw [e, cell_of_row w q j cs _ (0, 0) h2]
  exact h3 _ _ hu
theorem RowT.own {w : World} {base : Nat} {t : TypeId} {A : Option Addr} {n c : Nat} {xs : List Value} (h : w.ownsRow base t 1 (.slice A n c) n xs) : RowT w A t xs := fun h0 => by
  have hn : n = xs.length := by have := h.1; omega
  obtain ⟨q, cur, e1, _, e3, _, _, e6⟩ := own_row h (by omega)
  refine ⟨q, cur, e1, e3, fun j u hu => ?_⟩
  rw [← cell_of_row w q j cur _ (0, 0) e3]
  exact e6 j u hu
/-- The document's table. -/
structure XTab (w : World) (g : Nat) (An Am Ao : Option Addr) (cn cm co : Nat) (M : List It) : Prop where
  head : w.heap[g]? = some (.cells #[.slice An M.length cn, .slice Am M.length cm, .slice Ao M.length co] 60)
  n : RowT w An 26 (M.map fun x => .int .u64 x.n)
  m : RowT w Am 3 (M.map fun x => .int .i64 x.m)
  o : RowT w Ao 4 (M.map fun x => .bool x.o)
theorem XTab.below {w w2 : World} {g : Nat} {An Am Ao : Option Addr} {cn cm co : Nat} {M : List It} (h : XTab w g An Am Ao cn cm co M) (hb : Below w.heap.size w w2) : XTab w2 g An Am Ao cn cm co M :=
  ⟨(hb.block g (lt_heap h.head)).trans h.head, h.n.below hb, h.m.below hb, h.o.below hb⟩
theorem XTab.tk {base b : Nat} {w w2 : World} {g : Nat} {An Am Ao : Option Addr} {cn cm co : Nat} {M : List It} {hv : Value} (h : XTab w g An Am Ao cn cm co M) (t : TK base b w w2) (hb : w.heap[b]? = some (.cells #[hv] 83)) : XTab w2 g An Am Ao cn cm co M := by
  have K : ∀ (ty : TypeId) (q : Nat) cs, ty ≠ 83 → ty ≠ 80 → w.heap[q]? = some (Obj.cells cs ty) → w2.heap[q]? = some (Obj.cells cs ty) := fun ty q cs h1 h2 hq => t.kind q _ hq (heap_ne hq hb (fun h => by injection h with _ h; exact h1 h)) (fun cur h => by injection h with _ h; exact h2 h)
  exact ⟨K _ _ _ (by decide) (by decide) h.head, h.n.kept fun q cs hq => K _ _ _ (by decide) (by decide) hq, h.m.kept fun q cs hq => K _ _ _ (by decide) (by decide) hq, h.o.kept fun q cs hq => K _ _ _ (by decide) (by decide) hq⟩
theorem XTab.cells {w : World} {g : Nat} {An Am Ao : Option Addr} {cn cm co : Nat} {M : List It} (h : XTab w g An Am Ao cn cm co M) : w.cell? { block := g, off := 0 } = some (.slice An M.length cn) ∧ w.cell? { block := g, off := 1 } = some (.slice Am M.length cm) ∧ w.cell? { block := g, off := 2 } = some (.slice Ao M.length co) ∧ w.frozen? { block := g, off := 0 } = false ∧ w.frozen? { block := g, off := 1 } = false ∧ w.frozen? { block := g, off := 2 } = false :=
  ⟨cell_of_row w g 0 _ _ (0, 0) h.head, cell_of_row w g 1 _ _ (0, 0) h.head, cell_of_row w g 2 _ _ (0, 0) h.head, frozen_of_row w g 0 _ _ h.head, frozen_of_row w g 1 _ _ h.head, frozen_of_row w g 2 _ _ h.head⟩
theorem u64_info : (Try.prog.info? 26).map (fun i => (i.zero, i.size, i.bytes)) = some (some (.int .u64 0), 1, 8) := by kernel_rfl
theorem bool_info : (Try.prog.info? 4).map (fun i => (i.zero, i.size, i.bytes)) = some (some (.bool false), 1, 1) := by kernel_rfl
theorem RowT.readsn {w : World} {A : Option Addr} {t : TypeId} {xs : List Value} (h : RowT w A t xs) (o : Obj) {n : Nat} (hn : xs.length = n) : Reads (w.alloc o) w.heap.size 1 A n xs := by
  subst hn
  exact h.reads.alloc (Nat.le_refl _) o
theorem radd_below {W w1 w2 : World} {t : TypeId} {xs : List Value} {u v1 : Value} {n1 : Nat} (hg1 : (W.alloc (.cells #[] t)).grownBy w1 (Value.slice (some ⟨W.heap.size, 0, none⟩) 0 0).ownBlock) (ho1 : w1.ownsRow W.heap.size t 1 v1 n1 xs) (hg2 : (w1.alloc (.cells #[u] t)).grownBy w2 v1.ownBlock) : Below W.heap.size W w2 := by
  have b1 : Below W.heap.size W w1 := below_via1 (below_alloc (Below.refl _ W) (.cells #[] t)) hg1 rfl rfl rfl rfl (by simp) (own_base (own_empty1 W W.heap.size t W.heap.size (Nat.le_refl _) rfl))
  exact below_via1 (below_alloc b1 (.cells #[u] t)) hg2 rfl rfl rfl rfl (below_alloc b1 (.cells #[u] t)).size (own_base ho1)
-- X3 begins
/-- The document's table in the midst of a moment more: its three rows, each as long as it is now; and what changed since. -/
structure X3 (w W : World) (g : Nat) (An : Option Addr) (n cn : Nat) (Am : Option Addr) (m cm : Nat) (Ao : Option Addr) (o co : Nat) (xs ys zs : List Value) : Prop where
  head : W.heap[g]? = some (.cells #[.slice An n cn, .slice Am m cm, .slice Ao o co] 60)
  rn : RowT W An 26 xs
  rm : RowT W Am 3 ys
  ro : RowT W Ao 4 zs
  chg : Chg (· = g) w W
theorem X3.below {w W W2 : World} {g : Nat} {An : Option Addr} {n cn : Nat} {Am : Option Addr} {m cm : Nat} {Ao : Option Addr} {o co : Nat} {xs ys zs : List Value} (h : X3 w W g An n cn Am m cm Ao o co xs ys zs) (hb : Below W.heap.size W W2) : X3 w W2 g An n cn Am m cm Ao o co xs ys zs :=
  ⟨(hb.block g (lt_heap h.head)).trans h.head, h.rn.below hb, h.rm.below hb, h.ro.below hb, h.chg.trans (Chg.of_below hb)⟩
theorem X3.cells {w W : World} {g : Nat} {An : Option Addr} {n cn : Nat} {Am : Option Addr} {m cm : Nat} {Ao : Option Addr} {o co : Nat} {xs ys zs : List Value} (h : X3 w W g An n cn Am m cm Ao o co xs ys zs) : W.cell? { block := g, off := 0 } = some (.slice An n cn) ∧ W.cell? { block := g, off := 1 } = some (.slice Am m cm) ∧ W.cell? { block := g, off := 2 } = some (.slice Ao o co) ∧ W.frozen? { block := g, off := 0 } = false ∧ W.frozen? { block := g, off := 1 } = false ∧ W.frozen? { block := g, off := 2 } = false :=
  ⟨cell_of_row W g 0 _ _ (0, 0) h.head, cell_of_row W g 1 _ _ (0, 0) h.head, cell_of_row W g 2 _ _ (0, 0) h.head, frozen_of_row W g 0 _ _ h.head, frozen_of_row W g 1 _ _ h.head, frozen_of_row W g 2 _ _ h.head⟩
theorem RowT.setC {W : World} {A : Option Addr} {t t2 : TypeId} {xs : List Value} {g : Nat} {cs : Array Value} (h : RowT W A t xs) (hg : W.heap[g]? = some (Obj.cells cs t2)) (ht : t ≠ t2) (j : Nat) (u : Value) : RowT (W.setCell { block := g, off := j } u) A t xs :=
  h.kept fun q c2 hq => (Below.heap_setCell _ _ _ _ (heap_ne hq hg (fun e => by injection e with _ e; exact ht e))).trans hq
theorem X3.step0 {w W w2 : World} {g base c2 k2 : Nat} {A2 : Option Addr} {xs2 : List Value} {An : Option Addr} {n cn : Nat} {Am : Option Addr} {m cm : Nat} {Ao : Option Addr} {o co : Nat} {xs ys zs : List Value} (h : X3 w W g An n cn Am m cm Ao o co xs ys zs) (ho : w2.ownsRow base 26 1 (.slice A2 k2 c2) k2 xs2) (hb : Below W.heap.size W w2) : X3 w (w2.setCell { block := g, off := 0 } (.slice A2 k2 c2)) g A2 k2 c2 Am m cm Ao o co xs2 ys zs := by
  have hh := (hb.block g (lt_heap h.head)).trans h.head
  refine ⟨?_, (RowT.own ho).setC hh (by decide) 0 _, (h.rm.below hb).setC hh (by decide) 0 _, (h.ro.below hb).setC hh (by decide) 0 _, (h.chg.trans (Chg.of_below hb)).setCell rfl _⟩
  simp [World.setCell, Array.getElem?_modify, hh]
theorem X3.step1 {w W w2 : World} {g base c2 k2 : Nat} {A2 : Option Addr} {xs2 : List Value} {An : Option Addr} {n cn : Nat} {Am : Option Addr} {m cm : Nat} {Ao : Option Addr} {o co : Nat} {xs ys zs : List Value} (h : X3 w W g An n cn Am m cm Ao o co xs ys zs) (ho : w2.ownsRow base 3 1 (.slice A2 k2 c2) k2 xs2) (hb : Below W.heap.size W w2) : X3 w (w2.setCell { block := g, off := 1 } (.slice A2 k2 c2)) g An n cn A2 k2 c2 Ao o co xs xs2 zs := by
  have hh := (hb.block g (lt_heap h.head)).trans h.head
  refine ⟨?_, (h.rn.below hb).setC hh (by decide) 1 _, (RowT.own ho).setC hh (by decide) 1 _, (h.ro.below hb).setC hh (by decide) 1 _, (h.chg.trans (Chg.of_below hb)).setCell rfl _⟩
  simp [World.setCell, Array.getElem?_modify, hh]
theorem X3.step2 {w W w2 : World} {g base c2 k2 : Nat} {A2 : Option Addr} {xs2 : List Value} {An : Option Addr} {n cn : Nat} {Am : Option Addr} {m cm : Nat} {Ao : Option Addr} {o co : Nat} {xs ys zs : List Value} (h : X3 w W g An n cn Am m cm Ao o co xs ys zs) (ho : w2.ownsRow base 4 1 (.slice A2 k2 c2) k2 xs2) (hb : Below W.heap.size W w2) : X3 w (w2.setCell { block := g, off := 2 } (.slice A2 k2 c2)) g An n cn Am m cm A2 k2 c2 xs ys xs2 := by
  have hh := (hb.block g (lt_heap h.head)).trans h.head
  refine ⟨?_, (h.rn.below hb).setC hh (by decide) 2 _, (h.rm.below hb).setC hh (by decide) 2 _, (RowT.own ho).setC hh (by decide) 2 _, (h.chg.trans (Chg.of_below hb)).setCell rfl _⟩
  simp [World.setCell, Array.getElem?_modify, hh]
theorem X3.tab {w W : World} {g n cn cm co : Nat} {An Am Ao : Option Addr} {xs ys zs : List Value} {M : List It} (h : X3 w W g An n cn Am n cm Ao n co xs ys zs) (hn : M.length = n) (hx : M.map (fun x => Value.int .u64 x.n) = xs) (hy : M.map (fun x => Value.int .i64 x.m) = ys) (hz : M.map (fun x => Value.bool x.o) = zs) : XTab W g An Am Ao cn cm co M := by
  subst hn hx hy hz
  exact ⟨h.head, h.rn, h.rm, h.ro⟩
set_option maxRecDepth 100000 in
set_option maxHeartbeats 4000000 in
theorem radd_ok {w : World} {g : Nat} {An Am Ao : Option Addr} {cn cm co : Nat} {M : List It} (h : XTab w g An Am Ao cn cm co M) (num m : Int) (h1 : 1 ≤ num) (h2 : num ≤ 65535) (h3 : 0 ≤ m) (h4 : m ≤ 1073741824) (hl : M.length ≤ 1000) (ha : ∀ x ∈ M, x.n < num ∧ x.m ≤ m) :
    Calls Try.prog 35 #[.pointer (some ⟨g, 0, none⟩), .int .u64 num, .int .i64 m] w fun e w' => e = .returned (.int .i64 0) ∧ (∃ An Am Ao cn cm co, XTab w' g An Am Ao cn cm co (M ++ [⟨num, m, false⟩])) ∧ Chg (· = g) w w' := by
  obtain ⟨iu, hiu, zu0, zu1, zu2⟩ := info_parts u64_info
  obtain ⟨ii, hii, zi0, zi1, zi2⟩ := info_parts int_info
  obtain ⟨ib, hib, zb0, zb1, zb2⟩ := info_parts bool_info
  have hiu' := Lib.hid hiu
  have hii' := Lib.hid hii
  have hib' := Lib.hid hib
  clear hiu hii hib
  have H := Lib.hid h
  obtain ⟨x0, x1, x2, f0, f1, f2⟩ := h.cells
  have HA := Lib.hid ha
  clear h ha
  have r1 : decide (num < 1) = false := decide_eq_false (by omega)
  have r2 : decide (65535 < num) = false := decide_eq_false (by omega)
  have r3 : decide (m < 0) = false := decide_eq_false (by omega)
  have r4 : decide (1073741824 < m) = false := decide_eq_false (by omega)
  go_enter Try.func35, Try.ntmps35
  go_wp2
  go_loop [7] (fun v7 => ∃ i : Nat, v7 = .int .i64 i ∧ i ≤ M.length) (fun v7 => M.length - (intOf v7).toNat)
  case atStart => exact ⟨0, rfl, Nat.zero_le _⟩
  case round =>
    obtain ⟨i, rfl, hi⟩ := hrel
    by_cases hlt : i < M.length
    · obtain ⟨q1, e1, c1⟩ := H.out.n.at_ (k := i) (by simpa using hlt)
      obtain ⟨q2, e2, c2⟩ := H.out.m.at_ (k := i) (by simpa using hlt)
      rw [List.getElem_map] at c1 c2
      obtain ⟨a1, a2⟩ := HA.out _ (List.getElem_mem hlt)
      subst e1 e2
      generalize M[i] = y at *
      have s1 : decide (num ≤ y.n) = false := decide_eq_false (by omega)
      have s2 : decide (m < y.m) = false := decide_eq_false (by omega)
      go_wp2
      go_round
      case rel => exact ⟨i + 1, by go_num, by omega⟩
      case measure => simp [intOf]; omega
    · obtain rfl : i = M.length := by omega
      have X0 := Lib.hid (show X3 w w g An M.length cn Am M.length cm Ao M.length co _ _ _ from ⟨H.out.head, H.out.n, H.out.m, H.out.o, Chg.refl _ w⟩)
      go_upto_region 8 with fail
      clear HA x0 x1 x2 f0 f1 f2
      have hx0 := Lib.hid (show (0 + M.length ≤ maxLen ∧ (0 + M.length) * 8 ≤ 140737488355328) ∧ (M.length + 1 ≤ maxLen ∧ (M.length + 1) * 8 ≤ 140737488355328) by unfold maxLen; omega)
      have o0 : Hid (∀ u ∈ M.map (fun x => Value.int .u64 x.n), u.oneCell' = true) := Lib.hid (by simp [Value.oneCell'])
      have R0 := Lib.hid (X0.out.rn.readsn (.cells #[] 26) (n := M.length) (by simp))
      have xa := (X0.out.below (below_alloc (Below.refl _ w) (.cells #[] 26))).cells.1
      go_upto_region 9 with (first
        | (at_builtin
           refine wpList_append_any _ rfl _ _ 57 rfl w.heap.size 26 iu _ 1 8 Try.underlying57 hiu'.out zu0 zu1 zu2 rfl (by decide) (.slice (some ⟨w.heap.size, 0, none⟩) 0 0) 0 [] rfl (own_empty1 w w.heap.size 26 w.heap.size (Nat.le_refl _) rfl) _ _ M.length cn _ rfl R0.out o0.out hx0.out.1.1 hx0.out.1.2 (by simp) ?_
           intro v1 w1 ho1 hg1 ha1
           rw [Nat.zero_add, List.nil_append] at ho1
           obtain ⟨A1, c1, rfl, hcap1⟩ := own_slice_cap ho1
           replace ho1 := Lib.hid ho1
           replace hg1 := Lib.hid hg1
           clear ha1 hcap1)
        | (at_builtin
           refine wpList_append_any _ rfl _ _ 57 rfl w.heap.size 26 iu _ 1 8 Try.underlying57 hiu'.out zu0 zu1 zu2 rfl (by decide) _ _ _ rfl (World.ownsRow.alloc ho1.out (.cells #[.int .u64 num] 26)) _ _ 1 1 [.int .u64 num] rfl (reads_one (heap_alloc_new w1 (.cells #[.int .u64 num] 26))) (by simp [Value.oneCell']) hx0.out.2.1 hx0.out.2.2 (below_alloc (below_via1 (below_alloc (Below.refl _ w) (.cells #[] 26)) hg1.out rfl rfl rfl rfl (by simp) (own_base (own_empty1 w w.heap.size 26 w.heap.size (Nat.le_refl _) rfl))) (.cells #[.int .u64 num] 26)).size ?_
           intro v2 w2 ho2 hg2 ha2
           obtain ⟨A2, c2, rfl, hcap2⟩ := own_slice_cap ho2
           have B2 := radd_below hg1.out ho1.out hg2
           obtain ⟨y0, y1, y2, k0, k1, k2⟩ := (X0.out.below B2).cells
           have X1 := Lib.hid (X0.out.step0 ho2 B2)
           clear ha2 hcap2 hg2 ho1 hg1 ho2 B2))
      clear y0 y1 y2 k0 k1 k2 xa R0 o0 hx0
      generalize w2.setCell _ _ = W1 at *
      clear X0
      have hx1 := Lib.hid (show (0 + M.length ≤ maxLen ∧ (0 + M.length) * 8 ≤ 140737488355328) ∧ (M.length + 1 ≤ maxLen ∧ (M.length + 1) * 8 ≤ 140737488355328) by unfold maxLen; omega)
      have o1 : Hid (∀ u ∈ M.map (fun x => Value.int .i64 x.m), u.oneCell' = true) := Lib.hid (by simp [Value.oneCell'])
      have R1 := Lib.hid (X1.out.rm.readsn (.cells #[] 3) (n := M.length) (by simp))
      have xa := (X1.out.below (below_alloc (Below.refl _ W1) (.cells #[] 3))).cells.2.1
      go_upto_region 10 with (first
        | (at_builtin
           refine wpList_append_any _ rfl _ _ 44 rfl W1.heap.size 3 ii _ 1 8 Try.underlying44 hii'.out zi0 zi1 zi2 rfl (by decide) (.slice (some ⟨W1.heap.size, 0, none⟩) 0 0) 0 [] rfl (own_empty1 W1 W1.heap.size 3 W1.heap.size (Nat.le_refl _) rfl) _ _ M.length cm _ rfl R1.out o1.out hx1.out.1.1 hx1.out.1.2 (by simp) ?_
           intro v1 w1 ho1 hg1 ha1
           rw [Nat.zero_add, List.nil_append] at ho1
           obtain ⟨A1, c1, rfl, hcap1⟩ := own_slice_cap ho1
           replace ho1 := Lib.hid ho1
           replace hg1 := Lib.hid hg1
           clear ha1 hcap1)
        | (at_builtin
           refine wpList_append_any _ rfl _ _ 44 rfl W1.heap.size 3 ii _ 1 8 Try.underlying44 hii'.out zi0 zi1 zi2 rfl (by decide) _ _ _ rfl (World.ownsRow.alloc ho1.out (.cells #[.int .i64 m] 3)) _ _ 1 1 [.int .i64 m] rfl (reads_one (heap_alloc_new w1 (.cells #[.int .i64 m] 3))) (by simp [Value.oneCell']) hx1.out.2.1 hx1.out.2.2 (below_alloc (below_via1 (below_alloc (Below.refl _ W1) (.cells #[] 3)) hg1.out rfl rfl rfl rfl (by simp) (own_base (own_empty1 W1 W1.heap.size 3 W1.heap.size (Nat.le_refl _) rfl))) (.cells #[.int .i64 m] 3)).size ?_
           intro v2 w2 ho2 hg2 ha2
           obtain ⟨A2, c2, rfl, hcap2⟩ := own_slice_cap ho2
           have B2 := radd_below hg1.out ho1.out hg2
           obtain ⟨y0, y1, y2, k0, k1, k2⟩ := (X1.out.below B2).cells
           have X2 := Lib.hid (X1.out.step1 ho2 B2)
           clear ha2 hcap2 hg2 ho1 hg1 ho2 B2))
      clear y0 y1 y2 k0 k1 k2 xa R1 o1 hx1
      generalize w2.setCell _ _ = W2 at *
      clear X1
      have hx2 := Lib.hid (show (0 + M.length ≤ maxLen ∧ (0 + M.length) * 1 ≤ 140737488355328) ∧ (M.length + 1 ≤ maxLen ∧ (M.length + 1) * 1 ≤ 140737488355328) by unfold maxLen; omega)
      have o2 : Hid (∀ u ∈ M.map (fun x => Value.bool x.o), u.oneCell' = true) := Lib.hid (by simp [Value.oneCell'])
      have R2 := Lib.hid (X2.out.ro.readsn (.cells #[] 4) (n := M.length) (by simp))
      have xa := (X2.out.below (below_alloc (Below.refl _ W2) (.cells #[] 4))).cells.2.2.1
      go_wp2_with (first
        | (at_builtin
           refine wpList_append_any _ rfl _ _ 58 rfl W2.heap.size 4 ib _ 1 1 Try.underlying58 hib'.out zb0 zb1 zb2 rfl (by decide) (.slice (some ⟨W2.heap.size, 0, none⟩) 0 0) 0 [] rfl (own_empty1 W2 W2.heap.size 4 W2.heap.size (Nat.le_refl _) rfl) _ _ M.length co _ rfl R2.out o2.out hx2.out.1.1 hx2.out.1.2 (by simp) ?_
           intro v1 w1 ho1 hg1 ha1
           rw [Nat.zero_add, List.nil_append] at ho1
           obtain ⟨A1, c1, rfl, hcap1⟩ := own_slice_cap ho1
           replace ho1 := Lib.hid ho1
           replace hg1 := Lib.hid hg1
           clear ha1 hcap1)
        | (at_builtin
           refine wpList_append_any _ rfl _ _ 58 rfl W2.heap.size 4 ib _ 1 1 Try.underlying58 hib'.out zb0 zb1 zb2 rfl (by decide) _ _ _ rfl (World.ownsRow.alloc ho1.out (.cells #[.bool false] 4)) _ _ 1 1 [.bool false] rfl (reads_one (heap_alloc_new w1 (.cells #[.bool false] 4))) (by simp [Value.oneCell']) hx2.out.2.1 hx2.out.2.2 (below_alloc (below_via1 (below_alloc (Below.refl _ W2) (.cells #[] 4)) hg1.out rfl rfl rfl rfl (by simp) (own_base (own_empty1 W2 W2.heap.size 4 W2.heap.size (Nat.le_refl _) rfl))) (.cells #[.bool false] 4)).size ?_
           intro v2 w2 ho2 hg2 ha2
           obtain ⟨A2, c2, rfl, hcap2⟩ := own_slice_cap ho2
           have B2 := radd_below hg1.out ho1.out hg2
           obtain ⟨y0, y1, y2, k0, k1, k2⟩ := (X2.out.below B2).cells
           have X3 := Lib.hid (X2.out.step2 ho2 B2)
           clear ha2 hcap2 hg2 ho1 hg1 ho2 B2))
      go_ret
      exact ⟨rfl, ⟨_, _, _, _, _, _, X3.out.tab (by simp) (by simp) (by simp) (by simp)⟩, X3.out.chg⟩
end Go.Proofs.Ytonlbeonblpblaa.All
