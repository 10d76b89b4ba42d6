/-
  The document's table: a moment released, a moment dropped. No condition but that the table lies as its rows say, its numbers rise and its minutes are minutes, and it is short. (Written by gen/rdrop.py.)
-/
import Derived.Test.YtonlbeonblpblaaDocF
import Derived.Test.YtonlbeonblpblaaDrop
namespace Go.Proofs.Ytonlbeonblpblaa.All
open Go.RowKit Go.Proofs.YtonlbeonblpblaaW.PrintWords Go.Proofs.YtonlbeonblpblaaW.PrintLast Go.Proofs.YtonlbeonblpblaaW.PrintMore Go.Proofs.Ytonlbeonblpblaa.Wd
set_option linter.unusedVariables false
set_option linter.unusedSimpArgs false
private theorem ym (motive : Option Value → Sort _) (h1 : (b : Bool) → motive (some (.bool b))) (h2 : (x : Option Value) → motive x) : Go.yielded.match_1 motive (some undef) h1 h2 = h2 (some undef) := rfl
attribute [local go_sem, local simp] ym
/-- The document's table, its rows no shorter than they are long. -/
def XT (w : World) (g : Nat) (M : List It) : Prop := ∃ An Am Ao cn cm co, XTab w g An Am Ao cn cm co M ∧ M.length ≤ cn ∧ M.length ≤ cm ∧ M.length ≤ co
theorem RowT.readsn' {w : World} {A : Option Addr} {t : TypeId} {xs : List Value} (h : RowT w A t xs) {n : Nat} (hn : xs.length = n) : Reads w w.heap.size 1 A n xs := by
  subst hn
  exact h.reads
theorem X3.put {w W : World} {g q : Nat} {An : Option Addr} {n cn : Nat} {Am : Option Addr} {m cm o co : Nat} {xs ys zs : List Value} (h : X3 w W g An n cn Am m cm (some ⟨q, 0, none⟩) o co xs ys zs) (hq : w.heap.size ≤ q) {cur : Array Value} (hh : W.heap[q]? = some (.cells cur 4)) {k : Nat} (hk : k < zs.length) (u : Value) :
    X3 w (W.setCell { block := q, off := k } u) g An n cn Am m cm (some ⟨q, 0, none⟩) o co xs ys (zs.set k u) := by
  have K : ∀ (ty : TypeId) (i : Nat) cs, ty ≠ 4 → W.heap[i]? = some (Obj.cells cs ty) → (W.setCell { block := q, off := k } u).heap[i]? = some (Obj.cells cs ty) := fun ty i cs hne hi => (Below.heap_setCell _ _ _ _ (heap_ne hi hh (fun e => by injection e with _ e; exact hne e))).trans hi
  refine ⟨K _ _ _ (by decide) h.head, h.rn.kept fun i cs hi => K _ _ _ (by decide) hi, h.rm.kept fun i cs hi => K _ _ _ (by decide) hi, fun h0 => ?_, ⟨h.chg.os, h.chg.tape, h.chg.output, Nat.le_trans h.chg.size (by simp [World.setCell]), fun i hi hn => (Below.heap_setCell _ _ _ _ (by show i ≠ q; omega)).trans (h.chg.block i hi hn)⟩⟩
  obtain ⟨q', cs, e, h1, h2⟩ := h.ro (by omega)
  injection e with e
  injection e with e
  subst e
  rw [hh] at h1
  injection h1 with h1
  injection h1 with h1
  subst h1
  refine ⟨q, cur.set! k u, rfl, by simp [World.setCell, Array.getElem?_modify, hh], fun j v hv => ?_⟩
  rw [List.getElem?_set] at hv
  by_cases e : k = j
  · subst e
    rw [if_pos rfl, if_pos hk] at hv
    have hkc : k < cur.size := by
      have h3 := h2 k zs[k] (List.getElem?_eq_getElem hk)
      exact (Array.getElem?_eq_some_iff.1 h3).1
    rw [Array.set!_eq_setIfInBounds, Array.getElem?_setIfInBounds_self_of_lt hkc]
    exact hv
  · rw [if_neg e] at hv
    rw [Array.set!_eq_setIfInBounds, Array.getElem?_setIfInBounds_ne e]
    exact h2 j v hv
theorem relAt_n {M : List It} {k : Nat} (hk : k < M.length) : (relAt M k).map (fun x => Value.int .u64 x.n) = M.map (fun x => Value.int .u64 x.n) := by
  refine List.ext_getElem (by rw [List.length_map, List.length_map, relAt_len]) fun i h1 h2 => ?_
  rw [List.getElem_map, List.getElem_map, relAt_get M k _ (by simpa using h2)]
theorem relAt_m {M : List It} {k : Nat} (hk : k < M.length) : (relAt M k).map (fun x => Value.int .i64 x.m) = M.map (fun x => Value.int .i64 x.m) := by
  refine List.ext_getElem (by rw [List.length_map, List.length_map, relAt_len]) fun i h1 h2 => ?_
  rw [List.getElem_map, List.getElem_map, relAt_get M k _ (by simpa using h2)]
theorem relAt_o {M : List It} {k : Nat} (hk : k < M.length) : (relAt M k).map (fun x => Value.bool x.o) = (M.map (fun x => Value.bool x.o)).set k (.bool true) := by
  refine List.ext_getElem (by rw [List.length_map, List.length_set, List.length_map, relAt_len]) fun i h1 h2 => ?_
  rw [List.getElem_map, relAt_get M k _ (by simpa using h2), List.getElem_set, List.getElem_map]
  by_cases e : k = i
  · rw [if_pos e, if_pos e]
  · rw [if_neg e, if_neg e]
theorem erase_map {α β : Type} (f : α → β) (M : List α) (k : Nat) : (M.eraseIdx k).map f = (M.map f).take k ++ (M.map f).drop (k + 1) := by
  rw [erase_split, List.map_append, List.map_take, List.map_drop]
set_option maxRecDepth 100000 in
set_option maxHeartbeats 4000000 in
theorem radd_okc {w : World} {g : Nat} {An Am Ao : Option Addr} {cn cm co : Nat} {M : List It} (h : XTab w g An Am Ao cn cm co M) (num m : Int) (h1 : 1 ≤ num) (h2 : num ≤ 65535) (h3 : 0 ≤ m) (h4 : m ≤ 1073741824) (hl : M.length ≤ 1000) (ha : ∀ x ∈ M, x.n < num ∧ x.m ≤ m) :
    Calls Try.prog 35 #[.pointer (some ⟨g, 0, none⟩), .int .u64 num, .int .i64 m] w fun e w' => e = .returned (.int .i64 0) ∧ XT w' g (M ++ [⟨num, m, false⟩]) ∧ Chg (· = g) w w' := by
  obtain ⟨iu, hiu, zu0, zu1, zu2⟩ := info_parts u64_info
  obtain ⟨ii, hii, zi0, zi1, zi2⟩ := info_parts int_info
  obtain ⟨ib, hib, zb0, zb1, zb2⟩ := info_parts bool_info
  have hiu' := Lib.hid hiu
  have hii' := Lib.hid hii
  have hib' := Lib.hid hib
  clear hiu hii hib
  have H := Lib.hid h
  obtain ⟨x0, x1, x2, f0, f1, f2⟩ := h.cells
  have HA := Lib.hid ha
  clear h ha
  have r1 : decide (num < 1) = false := decide_eq_false (by omega)
  have r2 : decide (65535 < num) = false := decide_eq_false (by omega)
  have r3 : decide (m < 0) = false := decide_eq_false (by omega)
  have r4 : decide (1073741824 < m) = false := decide_eq_false (by omega)
  go_enter Try.func35, Try.ntmps35
  go_wp2
  go_loop [7] (fun v7 => ∃ i : Nat, v7 = .int .i64 i ∧ i ≤ M.length) (fun v7 => M.length - (intOf v7).toNat)
  case atStart => exact ⟨0, rfl, Nat.zero_le _⟩
  case round =>
    obtain ⟨i, rfl, hi⟩ := hrel
    by_cases hlt : i < M.length
    · obtain ⟨q1, e1, c1⟩ := H.out.n.at_ (k := i) (by simpa using hlt)
      obtain ⟨q2, e2, c2⟩ := H.out.m.at_ (k := i) (by simpa using hlt)
      rw [List.getElem_map] at c1 c2
      obtain ⟨a1, a2⟩ := HA.out _ (List.getElem_mem hlt)
      subst e1 e2
      generalize M[i] = y at *
      have s1 : decide (num ≤ y.n) = false := decide_eq_false (by omega)
      have s2 : decide (m < y.m) = false := decide_eq_false (by omega)
      go_wp2
      go_round
      case rel => exact ⟨i + 1, by go_num, by omega⟩
      case measure => simp [intOf]; omega
    · obtain rfl : i = M.length := by omega
      have X0 := Lib.hid (show X3 w w g An M.length cn Am M.length cm Ao M.length co _ _ _ from ⟨H.out.head, H.out.n, H.out.m, H.out.o, Chg.refl _ w⟩)
      go_upto_region 8 with fail
      clear HA x0 x1 x2 f0 f1 f2
      have hx0 := Lib.hid (show (0 + M.length ≤ maxLen ∧ (0 + M.length) * 8 ≤ 140737488355328) ∧ (M.length + 1 ≤ maxLen ∧ (M.length + 1) * 8 ≤ 140737488355328) by unfold maxLen; omega)
      have o0 : Hid (∀ u ∈ M.map (fun x => Value.int .u64 x.n), u.oneCell' = true) := Lib.hid (by simp [Value.oneCell'])
      have R0 := Lib.hid (X0.out.rn.readsn (.cells #[] 26) (n := M.length) (by simp))
      have xa := (X0.out.below (below_alloc (Below.refl _ w) (.cells #[] 26))).cells.1
      go_upto_region 9 with (first
        | (at_builtin
           refine wpList_append_any _ rfl _ _ 57 rfl w.heap.size 26 iu _ 1 8 Try.underlying57 hiu'.out zu0 zu1 zu2 rfl (by decide) (.slice (some ⟨w.heap.size, 0, none⟩) 0 0) 0 [] rfl (own_empty1 w w.heap.size 26 w.heap.size (Nat.le_refl _) rfl) _ _ M.length cn _ rfl R0.out o0.out hx0.out.1.1 hx0.out.1.2 (by simp) ?_
           intro v1 w1 ho1 hg1 ha1
           rw [Nat.zero_add, List.nil_append] at ho1
           obtain ⟨A1, c1, rfl, hcap1⟩ := own_slice_cap ho1
           replace ho1 := Lib.hid ho1
           replace hg1 := Lib.hid hg1
           clear ha1 hcap1)
        | (at_builtin
           refine wpList_append_any _ rfl _ _ 57 rfl w.heap.size 26 iu _ 1 8 Try.underlying57 hiu'.out zu0 zu1 zu2 rfl (by decide) _ _ _ rfl (World.ownsRow.alloc ho1.out (.cells #[.int .u64 num] 26)) _ _ 1 1 [.int .u64 num] rfl (reads_one (heap_alloc_new w1 (.cells #[.int .u64 num] 26))) (by simp [Value.oneCell']) hx0.out.2.1 hx0.out.2.2 (below_alloc (below_via1 (below_alloc (Below.refl _ w) (.cells #[] 26)) hg1.out rfl rfl rfl rfl (by simp) (own_base (own_empty1 w w.heap.size 26 w.heap.size (Nat.le_refl _) rfl))) (.cells #[.int .u64 num] 26)).size ?_
           intro v2 w2 ho2 hg2 ha2
           obtain ⟨A2, c2, rfl, hcap2⟩ := own_slice_cap ho2
           have HCP1 := Lib.hid hcap2
           have B2 := radd_below hg1.out ho1.out hg2
           obtain ⟨y0, y1, y2, k0, k1, k2⟩ := (X0.out.below B2).cells
           have X1 := Lib.hid (X0.out.step0 ho2 B2)
           clear ha2 hcap2 hg2 ho1 hg1 ho2 B2))
      clear y0 y1 y2 k0 k1 k2 xa R0 o0 hx0
      generalize w2.setCell _ _ = W1 at *
      clear X0
      have hx1 := Lib.hid (show (0 + M.length ≤ maxLen ∧ (0 + M.length) * 8 ≤ 140737488355328) ∧ (M.length + 1 ≤ maxLen ∧ (M.length + 1) * 8 ≤ 140737488355328) by unfold maxLen; omega)
      have o1 : Hid (∀ u ∈ M.map (fun x => Value.int .i64 x.m), u.oneCell' = true) := Lib.hid (by simp [Value.oneCell'])
      have R1 := Lib.hid (X1.out.rm.readsn (.cells #[] 3) (n := M.length) (by simp))
      have xa := (X1.out.below (below_alloc (Below.refl _ W1) (.cells #[] 3))).cells.2.1
      go_upto_region 10 with (first
        | (at_builtin
           refine wpList_append_any _ rfl _ _ 44 rfl W1.heap.size 3 ii _ 1 8 Try.underlying44 hii'.out zi0 zi1 zi2 rfl (by decide) (.slice (some ⟨W1.heap.size, 0, none⟩) 0 0) 0 [] rfl (own_empty1 W1 W1.heap.size 3 W1.heap.size (Nat.le_refl _) rfl) _ _ M.length cm _ rfl R1.out o1.out hx1.out.1.1 hx1.out.1.2 (by simp) ?_
           intro v1 w1 ho1 hg1 ha1
           rw [Nat.zero_add, List.nil_append] at ho1
           obtain ⟨A1, c1, rfl, hcap1⟩ := own_slice_cap ho1
           replace ho1 := Lib.hid ho1
           replace hg1 := Lib.hid hg1
           clear ha1 hcap1)
        | (at_builtin
           refine wpList_append_any _ rfl _ _ 44 rfl W1.heap.size 3 ii _ 1 8 Try.underlying44 hii'.out zi0 zi1 zi2 rfl (by decide) _ _ _ rfl (World.ownsRow.alloc ho1.out (.cells #[.int .i64 m] 3)) _ _ 1 1 [.int .i64 m] rfl (reads_one (heap_alloc_new w1 (.cells #[.int .i64 m] 3))) (by simp [Value.oneCell']) hx1.out.2.1 hx1.out.2.2 (below_alloc (below_via1 (below_alloc (Below.refl _ W1) (.cells #[] 3)) hg1.out rfl rfl rfl rfl (by simp) (own_base (own_empty1 W1 W1.heap.size 3 W1.heap.size (Nat.le_refl _) rfl))) (.cells #[.int .i64 m] 3)).size ?_
           intro v2 w2 ho2 hg2 ha2
           obtain ⟨A2, c2, rfl, hcap2⟩ := own_slice_cap ho2
           have HCP2 := Lib.hid hcap2
           have B2 := radd_below hg1.out ho1.out hg2
           obtain ⟨y0, y1, y2, k0, k1, k2⟩ := (X1.out.below B2).cells
           have X2 := Lib.hid (X1.out.step1 ho2 B2)
           clear ha2 hcap2 hg2 ho1 hg1 ho2 B2))
      clear y0 y1 y2 k0 k1 k2 xa R1 o1 hx1
      generalize w2.setCell _ _ = W2 at *
      clear X1
      have hx2 := Lib.hid (show (0 + M.length ≤ maxLen ∧ (0 + M.length) * 1 ≤ 140737488355328) ∧ (M.length + 1 ≤ maxLen ∧ (M.length + 1) * 1 ≤ 140737488355328) by unfold maxLen; omega)
      have o2 : Hid (∀ u ∈ M.map (fun x => Value.bool x.o), u.oneCell' = true) := Lib.hid (by simp [Value.oneCell'])
      have R2 := Lib.hid (X2.out.ro.readsn (.cells #[] 4) (n := M.length) (by simp))
      have xa := (X2.out.below (below_alloc (Below.refl _ W2) (.cells #[] 4))).cells.2.2.1
      go_wp2_with (first
        | (at_builtin
           refine wpList_append_any _ rfl _ _ 58 rfl W2.heap.size 4 ib _ 1 1 Try.underlying58 hib'.out zb0 zb1 zb2 rfl (by decide) (.slice (some ⟨W2.heap.size, 0, none⟩) 0 0) 0 [] rfl (own_empty1 W2 W2.heap.size 4 W2.heap.size (Nat.le_refl _) rfl) _ _ M.length co _ rfl R2.out o2.out hx2.out.1.1 hx2.out.1.2 (by simp) ?_
           intro v1 w1 ho1 hg1 ha1
           rw [Nat.zero_add, List.nil_append] at ho1
           obtain ⟨A1, c1, rfl, hcap1⟩ := own_slice_cap ho1
           replace ho1 := Lib.hid ho1
           replace hg1 := Lib.hid hg1
           clear ha1 hcap1)
        | (at_builtin
           refine wpList_append_any _ rfl _ _ 58 rfl W2.heap.size 4 ib _ 1 1 Try.underlying58 hib'.out zb0 zb1 zb2 rfl (by decide) _ _ _ rfl (World.ownsRow.alloc ho1.out (.cells #[.bool false] 4)) _ _ 1 1 [.bool false] rfl (reads_one (heap_alloc_new w1 (.cells #[.bool false] 4))) (by simp [Value.oneCell']) hx2.out.2.1 hx2.out.2.2 (below_alloc (below_via1 (below_alloc (Below.refl _ W2) (.cells #[] 4)) hg1.out rfl rfl rfl rfl (by simp) (own_base (own_empty1 W2 W2.heap.size 4 W2.heap.size (Nat.le_refl _) rfl))) (.cells #[.bool false] 4)).size ?_
           intro v2 w2 ho2 hg2 ha2
           obtain ⟨A2, c2, rfl, hcap2⟩ := own_slice_cap ho2
           have HCP3 := Lib.hid hcap2
           have B2 := radd_below hg1.out ho1.out hg2
           obtain ⟨y0, y1, y2, k0, k1, k2⟩ := (X2.out.below B2).cells
           have X3 := Lib.hid (X2.out.step2 ho2 B2)
           clear ha2 hcap2 hg2 ho1 hg1 ho2 B2))
      go_ret
      exact ⟨rfl, ⟨_, _, _, _, _, _, X3.out.tab (by simp) (by simp) (by simp) (by simp), by rw [List.length_append, List.length_singleton]; exact ⟨HCP1.out, HCP2.out, HCP3.out⟩⟩, X3.out.chg⟩
def RRelPost (M : List It) (num : Int) (g : Nat) (w : World) (e : Ending) (w' : World) : Prop := e = .returned (.int .i64 (relC M num)) ∧ XT w' g (relM M num) ∧ Chg (· = g) w w'
theorem rrel_same {M : List It} {num k : Int} {g cn cm co : Nat} {An Am Ao : Option Addr} {w : World} (h : XTab w g An Am Ao cn cm co M) (hcap : M.length ≤ cn ∧ M.length ≤ cm ∧ M.length ≤ co) (hc : relC M num = k) (hk : k ≠ 0) : RRelPost M num g w (.returned (.int .i64 k)) w :=
  ⟨by rw [hc], ⟨_, _, _, _, _, _, by unfold relM; rw [if_neg (by rw [hc]; exact hk)]; exact ⟨h, hcap⟩⟩, Chg.refl _ _⟩
set_option maxRecDepth 100000 in
set_option maxHeartbeats 2000000 in
theorem rrel_calls {M : List It} (gd : Good M) {g cn cm co : Nat} {An Am Ao : Option Addr} {w : World} (h : XTab w g An Am Ao cn cm co M) (hcap : M.length ≤ cn ∧ M.length ≤ cm ∧ M.length ≤ co) (num : Int) :
    Calls Try.prog 37 #[.pointer (some ⟨g, 0, none⟩), .int .u64 num] w (RRelPost M num g w) := by
  have FC := rfind_calls gd.up gd.len h num
  replace hcap := Lib.hid hcap
  have H := Lib.hid h
  have hll := gd.len
  obtain ⟨x0, x1, x2, f0, f1, f2⟩ := h.cells
  clear h
  cases hh : hit M num with
  | false =>
    have HC := Lib.hid (show relC M num = 4 by unfold relC; rw [if_pos hh])
    rw [show findD M num = -1 by unfold findD; rw [hh]; rfl] at FC
    replace FC := Lib.hid FC
    clear hh
    go_enter Try.func37, Try.ntmps37
    go_wp2_with (go_at_call 24; (with_reducible refine FC.out.mono ?_); rintro e w' ⟨rfl, rfl⟩)
    go_ret
    exact rrel_same H.out hcap.out HC.out (by decide)
  | true =>
    obtain ⟨hlt, hn, hm⟩ := hit_at hh
    rw [show findD M num = (lb M num : Int) by unfold findD; rw [hh]; rfl] at FC
    have hC : relC M num = if (M.getD (lb M num) zi).o = true then 7 else if lb M num + 1 = M.length then 12 else 0 := by
      unfold relC
      rw [if_neg (by rw [hh]; decide)]
    have hM : relC M num = 0 → relM M num = relAt M (lb M num) := fun e => by unfold relM; rw [if_pos e]
    replace hM := Lib.hid hM
    clear hm hn hh
    obtain ⟨k, hk⟩ : ∃ k, lb M num = k := ⟨_, rfl⟩
    rw [hk] at FC hC hlt hM
    clear hk
    rw [getI M hlt] at hC
    replace FC := Lib.hid FC
    obtain ⟨q, hA, e1⟩ := H.out.o.at_ (k := k) (by simpa using hlt)
    rw [List.getElem_map] at e1
    subst hA
    have q0 : decide ((k : Int) < 0) = false := decide_eq_false (by omega)
    have hd : IntKind.i64.wrap ((M.length : Int) - 1) = (M.length : Int) - 1 := IntWalk.i64_in _ (by omega)
    cases ho : M[k].o with
    | true =>
      rw [ho] at hC e1
      rw [if_pos rfl] at hC
      replace hC := Lib.hid hC
      clear ho
      go_enter Try.func37, Try.ntmps37
      go_wp2_with (go_at_call 24; (with_reducible refine FC.out.mono ?_); rintro e w' ⟨rfl, rfl⟩)
      go_ret
      exact rrel_same H.out hcap.out hC.out (by decide)
    | false =>
      rw [ho] at hC e1
      rw [if_neg (by decide)] at hC
      clear ho
      by_cases hl : k + 1 = M.length
      · rw [if_pos hl] at hC
        replace hC := Lib.hid hC
        have q1 : ((k : Int) == (M.length : Int) - 1) = true := beq_iff_eq.2 (by omega)
        go_enter Try.func37, Try.ntmps37
        go_wp2_with (go_at_call 24; (with_reducible refine FC.out.mono ?_); rintro e w' ⟨rfl, rfl⟩)
        go_ret
        exact rrel_same H.out hcap.out hC.out (by decide)
      · rw [if_neg hl] at hC
        replace hC := Lib.hid hC
        have q1 : ((k : Int) == (M.length : Int) - 1) = false := beq_eq_false_iff_ne.2 (by omega)
        obtain ⟨ib, hib, zb0, zb1, zb2⟩ := info_parts bool_info
        have hib' := Lib.hid hib
        clear hib
        have X0 := Lib.hid (show X3 w w g An M.length cn Am M.length cm (some ⟨q, 0, none⟩) M.length co _ _ _ from ⟨H.out.head, H.out.n, H.out.m, H.out.o, Chg.refl _ w⟩)
        have hx0 := Lib.hid (show 0 + M.length ≤ maxLen ∧ (0 + M.length) * 1 ≤ 140737488355328 by unfold maxLen; omega)
        have o0 : Hid (∀ u ∈ M.map (fun x => Value.bool x.o), u.oneCell' = true) := Lib.hid (by simp [Value.oneCell'])
        have R0 := Lib.hid (X0.out.ro.readsn (.cells #[] 4) (n := M.length) (by simp))
        have xa := (X0.out.below (below_alloc (Below.refl _ w) (.cells #[] 4))).cells.2.2.1
        have hl0 : 0 < M.length := by omega
        go_enter Try.func37, Try.ntmps37
        go_upto_region 9 with (first
          | (go_at_call 24; (with_reducible refine FC.out.mono ?_); rintro e w' ⟨rfl, rfl⟩)
          | (at_builtin
             refine wpList_append_any _ rfl _ _ 58 rfl w.heap.size 4 ib _ 1 1 Try.underlying58 hib'.out zb0 zb1 zb2 rfl (by decide) (.slice (some ⟨w.heap.size, 0, none⟩) 0 0) 0 [] rfl (own_empty1 w w.heap.size 4 w.heap.size (Nat.le_refl _) rfl) _ _ M.length co _ rfl R0.out o0.out hx0.out.1 hx0.out.2 (by simp) ?_
             intro v1 w1 ho1 hg1 ha1
             rw [Nat.zero_add, List.nil_append] at ho1
             obtain ⟨A1, c1, rfl, hcap1⟩ := own_slice_cap ho1
             obtain ⟨q1b, cur1, hA1, hbq1, hh1, hcap2, hs1, hc1⟩ := own_row ho1 hl0
             subst hA1
             have B1 : Below w.heap.size w w1 := below_via1 (below_alloc (Below.refl _ w) (.cells #[] 4)) hg1 rfl rfl rfl rfl (by simp) (own_base (own_empty1 w w.heap.size 4 w.heap.size (Nat.le_refl _) rfl))
             obtain ⟨y0, y1, y2, k0, k1, k2⟩ := (X0.out.below B1).cells
             have hne : q1b ≠ g := heap_ne hh1 (X0.out.below B1).head (by intro e; injection e with _ e; exact absurd e (by decide))
             have hh2 : (w1.setCell { block := g, off := 2 } (.slice (some ⟨q1b, 0, none⟩) M.length c1)).heap[q1b]? = some (.cells cur1 4) := (Below.heap_setCell _ _ _ _ hne).trans hh1
             have X1 := Lib.hid (X0.out.step2 ho1 B1)
             have HCP := Lib.hid hcap1
             have XP := Lib.hid (X1.out.put hbq1 hh2 (k := k) (by simpa using hlt) (.bool true))
             have z2 := X1.out.cells.2.2.1
             have f3 := frozen_of_row _ q1b k _ _ hh2
             have e3 : (w1.setCell { block := g, off := 2 } (.slice (some ⟨q1b, 0, none⟩) M.length c1)).cell? { block := q1b, off := k } = some (.bool M[k].o) := (cell_of_row _ q1b k _ _ (0, 0) hh2).trans (by
               have := (cell_of_row w1 q1b k _ _ (0, 0) hh1).symm.trans (hc1 k _ (List.getElem?_eq_getElem (by simpa using hlt)))
               rw [List.getElem_map] at this
               exact this)
             clear ha1 hcap1 hcap2 hs1 hg1 ho1 B1 hh1 hh2 hne hc1 hbq1 X1))
        generalize w1.setCell _ _ = W1 at *
        clear x0 x1 x2 f0 f1 f2 y0 y1 y2 k0 k1 k2 xa R0 o0 hx0
        go_wp2
        go_ret
        refine ⟨by rw [hC.out]; rfl, ?_, XP.out.chg⟩
        rw [hM.out hC.out]
        exact ⟨_, _, _, _, _, _, XP.out.tab (relAt_len M k) (relAt_n hlt) (relAt_m hlt) (relAt_o hlt), by rw [relAt_len]; exact ⟨hcap.out.1, hcap.out.2.1, HCP.out⟩⟩
def RDropPost (M : List It) (num : Int) (g : Nat) (w : World) (e : Ending) (w' : World) : Prop := e = .returned (.int .i64 (dropC M num)) ∧ XT w' g (dropM M num) ∧ Chg (· = g) w w'
theorem rdrop_same {M : List It} {num k : Int} {g cn cm co : Nat} {An Am Ao : Option Addr} {w : World} (h : XTab w g An Am Ao cn cm co M) (hcap : M.length ≤ cn ∧ M.length ≤ cm ∧ M.length ≤ co) (hc : dropC M num = k) (hk : k ≠ 0) : RDropPost M num g w (.returned (.int .i64 k)) w :=
  ⟨by rw [hc], ⟨_, _, _, _, _, _, by unfold dropM; rw [if_neg (by rw [hc]; exact hk)]; exact ⟨h, hcap⟩⟩, Chg.refl _ _⟩
set_option maxRecDepth 100000 in
set_option maxHeartbeats 4000000 in
theorem rdrop_calls {M : List It} (gd : Good M) {g cn cm co : Nat} {An Am Ao : Option Addr} {w : World} (h : XTab w g An Am Ao cn cm co M) (hcap : M.length ≤ cn ∧ M.length ≤ cm ∧ M.length ≤ co) (num : Int) :
    Calls Try.prog 39 #[.pointer (some ⟨g, 0, none⟩), .int .u64 num] w (RDropPost M num g w) := by
  have FC := rfind_calls gd.up gd.len h num
  replace hcap := Lib.hid hcap
  have H := Lib.hid h
  have hll := gd.len
  obtain ⟨x0, x1, x2, f0, f1, f2⟩ := h.cells
  clear h
  cases hh : hit M num with
  | false =>
    have HC := Lib.hid (show dropC M num = 4 by unfold dropC; rw [if_pos hh])
    rw [show findD M num = -1 by unfold findD; rw [hh]; rfl] at FC
    replace FC := Lib.hid FC
    clear hh
    go_enter Try.func39, Try.ntmps39
    go_wp2_with (go_at_call 24; (with_reducible refine FC.out.mono ?_); rintro e w' ⟨rfl, rfl⟩)
    go_ret
    exact rdrop_same H.out hcap.out HC.out (by decide)
  | true =>
    obtain ⟨hlt, hn, hm⟩ := hit_at hh
    rw [show findD M num = (lb M num : Int) by unfold findD; rw [hh]; rfl] at FC
    have hC : dropC M num = if (M.getD (lb M num) zi).o = false then 7 else 0 := by
      unfold dropC
      rw [if_neg (by rw [hh]; decide)]
    have hM : dropC M num = 0 → dropM M num = M.eraseIdx (lb M num) := fun e => by unfold dropM; rw [if_pos e]
    replace hM := Lib.hid hM
    clear hm hn hh
    obtain ⟨k, hk⟩ : ∃ k, lb M num = k := ⟨_, rfl⟩
    rw [hk] at FC hC hlt hM
    clear hk
    rw [getI M hlt] at hC
    replace FC := Lib.hid FC
    obtain ⟨q, hA, e1⟩ := H.out.o.at_ (k := k) (by simpa using hlt)
    rw [List.getElem_map] at e1
    have q0 : decide ((k : Int) < 0) = false := decide_eq_false (by omega)
    cases ho : M[k].o with
    | false =>
      rw [ho] at hC e1
      rw [if_pos rfl] at hC
      replace hC := Lib.hid hC
      clear ho
      subst hA
      go_enter Try.func39, Try.ntmps39
      go_wp2_with (go_at_call 24; (with_reducible refine FC.out.mono ?_); rintro e w' ⟨rfl, rfl⟩)
      go_ret
      exact rdrop_same H.out hcap.out hC.out (by decide)
    | true =>
      rw [ho] at hC e1
      rw [if_neg (by decide)] at hC
      clear ho
      replace hC := Lib.hid hC
      obtain ⟨iu, hiu, zu0, zu1, zu2⟩ := info_parts u64_info
      obtain ⟨ii, hii, zi0, zi1, zi2⟩ := info_parts int_info
      obtain ⟨ib, hib, zb0, zb1, zb2⟩ := info_parts bool_info
      have hiu' := Lib.hid hiu
      have hii' := Lib.hid hii
      have hib' := Lib.hid hib
      clear hiu hii hib
      have X0 := Lib.hid (show X3 w w g An M.length cn Am M.length cm Ao M.length co _ _ _ from ⟨H.out.head, H.out.n, H.out.m, H.out.o, Chg.refl _ w⟩)
      have hxl := Lib.hid (show 0 + k + (M.length - (k + 1)) = M.length - 1 by omega)
      have hxb := Lib.hid (show 0 + k ≤ maxLen ∧ 0 + k + (M.length - (k + 1)) ≤ maxLen by unfold maxLen; omega)
      have hy8 := Lib.hid (show (0 + k) * 8 ≤ 140737488355328 ∧ (0 + k + (M.length - (k + 1))) * 8 ≤ 140737488355328 by omega)
      have hy1 := Lib.hid (show (0 + k) * 1 ≤ 140737488355328 ∧ (0 + k + (M.length - (k + 1))) * 1 ≤ 140737488355328 by omega)
      have n1 : k ≤ M.length := by omega
      have n2 : k + 1 ≤ M.length := hlt
      have o0 : Hid ((∀ u ∈ (M.map (fun x => Value.int .u64 x.n)).take k, u.oneCell' = true) ∧ (∀ u ∈ (M.map (fun x => Value.int .u64 x.n)).drop (k + 1), u.oneCell' = true)) := Lib.hid ⟨fun u hu => by have := List.mem_of_mem_take hu; simp at this; obtain ⟨_, _, rfl⟩ := this; rfl, fun u hu => by have := List.mem_of_mem_drop hu; simp at this; obtain ⟨_, _, rfl⟩ := this; rfl⟩
      have o1 : Hid ((∀ u ∈ (M.map (fun x => Value.int .i64 x.m)).take k, u.oneCell' = true) ∧ (∀ u ∈ (M.map (fun x => Value.int .i64 x.m)).drop (k + 1), u.oneCell' = true)) := Lib.hid ⟨fun u hu => by have := List.mem_of_mem_take hu; simp at this; obtain ⟨_, _, rfl⟩ := this; rfl, fun u hu => by have := List.mem_of_mem_drop hu; simp at this; obtain ⟨_, _, rfl⟩ := this; rfl⟩
      have o2 : Hid ((∀ u ∈ (M.map (fun x => Value.bool x.o)).take k, u.oneCell' = true) ∧ (∀ u ∈ (M.map (fun x => Value.bool x.o)).drop (k + 1), u.oneCell' = true)) := Lib.hid ⟨fun u hu => by have := List.mem_of_mem_take hu; simp at this; obtain ⟨_, _, rfl⟩ := this; rfl, fun u hu => by have := List.mem_of_mem_drop hu; simp at this; obtain ⟨_, _, rfl⟩ := this; rfl⟩
      obtain ⟨hc1, hc2, hc3⟩ := hcap.out
      subst hA
      go_enter Try.func39, Try.ntmps39
      go_upto_region 6 with (go_at_call 24; (with_reducible refine FC.out.mono ?_); rintro e w' ⟨rfl, rfl⟩)
      clear FC x0 x1 x2 f0 f1 f2 e1
      obtain ⟨Ao, hAo⟩ : ∃ Ao : Option Addr, Ao = some ⟨q, 0, none⟩ := ⟨_, rfl⟩
      simp only [← hAo] at X0 ⊢
      replace H := Lib.hid (Lib.hid H)
      clear H hAo
      have b1 : (k : Int) ≤ (M.length : Int) := by omega
      have b3 : (0 : Int) ≤ (k : Int) + 1 := by omega
      have b0 : (0 : Int) ≤ (k : Int) := by omega
      have b4 : (k : Int) + 1 ≤ (M.length : Int) := by omega
      have b6 : ((k : Int) + 1).toNat = k + 1 := by omega
      have c1 : (k : Int) ≤ (cn : Int) := by omega
      have c2 : (k : Int) ≤ (cm : Int) := by omega
      have c3 : (k : Int) ≤ (co : Int) := by omega
      have c4 : (k : Int) + 1 ≤ (cn : Int) := by omega
      have c5 : (k : Int) + 1 ≤ (cm : Int) := by omega
      have c6 : (k : Int) + 1 ≤ (co : Int) := by omega
      have b2 : IntKind.i64.wrap ((k : Int) + 1) = (k : Int) + 1 := IntWalk.i64_in _ (by omega)
      have b2' : wrap64 ((k : Int) + 1) = (k : Int) + 1 := (i64_w _).symm.trans b2
      have XD := Lib.hid (X0.out.below (below_drew (Below.refl _ _)))
      refine wp_region_z_drew (S := fun w' => w'.cell? { block := g, off := 0 } = some (.slice An M.length cn) ∧ w'.frozen? { block := g, off := 0 } = false) (z := 19) (by kernel_rfl) ⟨XD.out.cells.1, XD.out.cells.2.2.2.1⟩ (fun hHeld => ?_)
      clear X0
      generalize w.drew = WD at *
      refine wpAnyZ_take1 0 rfl (by decide) (by kernel_rfl) (by kernel_rfl) (by kernel_rfl) (by kernel_rfl) (fun d v c a w h => by cases d <;> exact h) (by assumption) ⟨?_, ?_, ?_, Or.inl ⟨?_, ?_⟩, ?_⟩
      rotate_left
      · simp only [List.getElem?_toArray, List.getElem?_cons_zero, List.getElem?_cons_succ]; rfl
      rotate_left
      · rfl
      · intro w hSw; (try dsimp only at hSw); go_simp; try (with_reducible rfl)
      simp only [Act.put, List.setIfInBounds_toArray, List.set_cons_zero, List.set_cons_succ]
      refine wpAnyZ_take1 2 rfl (by decide) (by kernel_rfl) (by kernel_rfl) (by kernel_rfl) (by kernel_rfl) (fun d v c a w h => by cases d <;> exact h) (by assumption) ⟨?_, ?_, ?_, Or.inl ⟨?_, ?_⟩, ?_⟩
      rotate_left
      · simp only [List.getElem?_toArray, List.getElem?_cons_zero, List.getElem?_cons_succ]; rfl
      rotate_left
      · rfl
      · intro w hSw; (try dsimp only at hSw); go_simp; try (with_reducible rfl)
      simp only [Act.put, List.setIfInBounds_toArray, List.set_cons_zero, List.set_cons_succ]
      refine wpAnyZ_take1 3 rfl (by decide) (by kernel_rfl) (by kernel_rfl) (by kernel_rfl) (by kernel_rfl) (fun d v c a w h => by cases d <;> exact h) (by assumption) ⟨?_, ?_, ?_, Or.inl ⟨?_, ?_⟩, ?_⟩
      rotate_left
      · simp only [List.getElem?_toArray, List.getElem?_cons_zero, List.getElem?_cons_succ]; rfl
      rotate_left
      · rfl
      · intro w hSw; (try dsimp only at hSw); go_simp; try (with_reducible rfl)
      simp only [Act.put, List.setIfInBounds_toArray, List.set_cons_zero, List.set_cons_succ]
      refine wpAnyZ_take1 4 rfl (by decide) (by kernel_rfl) (by kernel_rfl) (by kernel_rfl) (by kernel_rfl) (fun d v c a w h => by cases d <;> exact h) (by assumption) ⟨?_, ?_, ?_, Or.inl ⟨?_, ?_⟩, ?_⟩
      rotate_left
      · simp only [List.getElem?_toArray, List.getElem?_cons_zero, List.getElem?_cons_succ]; rfl
      rotate_left
      · rfl
      · intro w hSw; (try dsimp only at hSw); go_simp; try (with_reducible rfl)
      simp only [Act.put, List.setIfInBounds_toArray, List.set_cons_zero, List.set_cons_succ]
      refine wpAnyZ_take1 5 rfl (by decide) (by kernel_rfl) (by kernel_rfl) (by kernel_rfl) (by kernel_rfl) (fun d v c a w h => by cases d <;> exact h) (by assumption) ⟨?_, ?_, ?_, Or.inl ⟨?_, ?_⟩, ?_⟩
      rotate_left
      · simp only [List.getElem?_toArray, List.getElem?_cons_zero, List.getElem?_cons_succ]; rfl
      rotate_left
      · rfl
      · intro w hSw; (try dsimp only at hSw); go_simp; try (with_reducible rfl)
      simp only [Act.put, List.setIfInBounds_toArray, List.set_cons_zero, List.set_cons_succ]
      refine wpAnyZ_take1 6 rfl (by decide) (by kernel_rfl) (by kernel_rfl) (by kernel_rfl) (by kernel_rfl) (fun d v c a w h => by cases d <;> exact h) (by assumption) ⟨?_, ?_, ?_, Or.inl ⟨?_, ?_⟩, ?_⟩
      rotate_left
      · simp only [List.getElem?_toArray, List.getElem?_cons_zero, List.getElem?_cons_succ]; rfl
      rotate_left
      · rfl
      · intro w hSw; (try dsimp only at hSw); go_simp; try (with_reducible rfl)
      simp only [Act.put, List.setIfInBounds_toArray, List.set_cons_zero, List.set_cons_succ]
      refine wpAnyZ_take1 7 rfl (by decide) (by kernel_rfl) (by kernel_rfl) (by kernel_rfl) (by kernel_rfl) (fun d v c a w h => by cases d <;> exact h) (by assumption) ⟨?_, ?_, ?_, Or.inl ⟨?_, ?_⟩, ?_⟩
      rotate_left
      · simp only [List.getElem?_toArray, List.getElem?_cons_zero, List.getElem?_cons_succ]; rfl
      rotate_left
      · rfl
      · intro w hSw; (try dsimp only at hSw); go_simp; try (with_reducible rfl)
      simp only [Act.put, List.setIfInBounds_toArray, List.set_cons_zero, List.set_cons_succ]
      refine wpAnyZ_take1 9 rfl (by decide) (by kernel_rfl) (by kernel_rfl) (by kernel_rfl) (by kernel_rfl) (fun d v c a w h => by cases d <;> exact h) (by assumption) ⟨?_, ?_, ?_, Or.inl ⟨?_, ?_⟩, ?_⟩
      rotate_left
      · simp only [List.getElem?_toArray, List.getElem?_cons_zero, List.getElem?_cons_succ]; rfl
      rotate_left
      · rfl
      · intro w hSw; (try dsimp only at hSw); go_simp; try (with_reducible rfl)
      simp only [Act.put, List.setIfInBounds_toArray, List.set_cons_zero, List.set_cons_succ]
      refine wpAnyZ_take1 10 rfl (by decide) (by kernel_rfl) (by kernel_rfl) (by kernel_rfl) (by kernel_rfl) (fun d v c a w h => by cases d <;> exact h) (by assumption) ⟨?_, ?_, ?_, Or.inl ⟨?_, ?_⟩, ?_⟩
      rotate_left
      · simp only [List.getElem?_toArray, List.getElem?_cons_zero, List.getElem?_cons_succ]; rfl
      rotate_left
      · rfl
      · intro w hSw; (try dsimp only at hSw); go_simp; try (with_reducible rfl)
      simp only [Act.put, List.setIfInBounds_toArray, List.set_cons_zero, List.set_cons_succ]
      refine wpAnyZ_take1 11 rfl (by decide) (by kernel_rfl) (by kernel_rfl) (by kernel_rfl) (by kernel_rfl) (fun d v c a w h => by cases d <;> exact h) (by assumption) ⟨?_, ?_, ?_, Or.inl ⟨?_, ?_⟩, ?_⟩
      rotate_left
      · simp only [List.getElem?_toArray, List.getElem?_cons_zero, List.getElem?_cons_succ]; rfl
      rotate_left
      · rfl
      · intro w hSw; (try dsimp only at hSw); go_simp; try (with_reducible rfl)
      simp only [Act.put, List.setIfInBounds_toArray, List.set_cons_zero, List.set_cons_succ]
      refine wpAnyZ_take1 12 rfl (by decide) (by kernel_rfl) (by kernel_rfl) (by kernel_rfl) (by kernel_rfl) (fun d v c a w h => by cases d <;> exact h) (by assumption) ⟨?_, ?_, ?_, Or.inl ⟨?_, ?_⟩, ?_⟩
      rotate_left
      · simp only [List.getElem?_toArray, List.getElem?_cons_zero, List.getElem?_cons_succ]; rfl
      rotate_left
      · rfl
      · intro w hSw; (try dsimp only at hSw); go_simp; try (with_reducible rfl)
      simp only [Act.put, List.setIfInBounds_toArray, List.set_cons_zero, List.set_cons_succ]
      refine wpAnyZ_take1 13 rfl (by decide) (by kernel_rfl) (by kernel_rfl) (by kernel_rfl) (by kernel_rfl) (fun d v c a w h => by cases d <;> exact h) (by assumption) ⟨?_, ?_, ?_, Or.inl ⟨?_, ?_⟩, ?_⟩
      rotate_left
      · simp only [List.getElem?_toArray, List.getElem?_cons_zero, List.getElem?_cons_succ]; rfl
      rotate_left
      · rfl
      · intro w hSw; (try dsimp only at hSw); go_simp; try (with_reducible rfl)
      simp only [Act.put, List.setIfInBounds_toArray, List.set_cons_zero, List.set_cons_succ]
      refine wpAnyZ_take1 14 rfl (by decide) (by kernel_rfl) (by kernel_rfl) (by kernel_rfl) (by kernel_rfl) (fun d v c a w h => by cases d <;> exact h) (by assumption) ⟨?_, ?_, ?_, Or.inl ⟨?_, ?_⟩, ?_⟩
      rotate_left
      · simp only [List.getElem?_toArray, List.getElem?_cons_zero, List.getElem?_cons_succ]; rfl
      rotate_left
      · rfl
      · intro w hSw; (try dsimp only at hSw); go_simp; try (with_reducible rfl)
      simp only [Act.put, List.setIfInBounds_toArray, List.set_cons_zero, List.set_cons_succ]
      refine wpAnyZ_take1 15 rfl (by decide) (by kernel_rfl) (by kernel_rfl) (by kernel_rfl) (by kernel_rfl) (fun d v c a w h => by cases d <;> exact h) (by assumption) ⟨?_, ?_, ?_, Or.inl ⟨?_, ?_⟩, ?_⟩
      rotate_left
      · simp only [List.getElem?_toArray, List.getElem?_cons_zero, List.getElem?_cons_succ]; rfl
      rotate_left
      · rfl
      · intro w hSw; (try dsimp only at hSw); go_simp; try (with_reducible rfl)
      simp only [Act.put, List.setIfInBounds_toArray, List.set_cons_zero, List.set_cons_succ]
      clear hHeld
      have KS := Lib.hid (fun (w' : World) (h : Below WD.heap.size WD w') => (⟨(XD.out.below h).cells.1, (XD.out.below h).cells.2.2.2.1⟩ : w'.cell? { block := g, off := 0 } = some (.slice An M.length cn) ∧ w'.frozen? { block := g, off := 0 } = false))
      have R1 := Lib.hid (reads_take1 (XD.out.rn.readsn' (n := M.length) (by simp)) (k := k) n1)
      have R2 := Lib.hid (reads_cut1 (XD.out.rn.readsn' (n := M.length) (by simp)) (k := k + 1) (c := cn) n2 hc1)
      refine wpAnyZ_ready (rs := [1]) (by kernel_rfl) (by simp) ?_
      refine AllReadyZ.cons1 ⟨?_, ?_, fun K hK => ?_⟩ AllReadyZ.nil
      rotate_left
      · simp only [List.getElem?_toArray, List.getElem?_cons_zero, List.getElem?_cons_succ]; rfl
      go_simp
      refine hK.out _ _ (fun _ => KS.out _ (below_alloc (Below.refl _ _) _)) (fun _ => ?_)
      clear hK K
      try simp only [Act.put, List.setIfInBounds_toArray, List.set_cons_zero, List.set_cons_succ]
      refine wpAnyZ_ready (rs := [8]) (by kernel_rfl) (by simp) ?_
      refine AllReadyZ.cons1 ⟨?_, ?_, fun K hK => ?_⟩ AllReadyZ.nil
      rotate_left
      · simp only [List.getElem?_toArray, List.getElem?_cons_zero, List.getElem?_cons_succ]; rfl
      refine step_append_any _ rfl (.tmp 20) (.tmp 26) 57 rfl WD.heap.size 26 iu _ 1 8 Try.underlying57 hiu'.out zu0 zu1 zu2 rfl (by decide) (.slice (some ⟨WD.heap.size, 0, none⟩) 0 0) 0 [] rfl (own_empty1 WD _ _ _ (Nat.le_refl _) rfl) WD.heap.size _ k cn _ rfl (R1.out.alloc (Nat.le_refl _) _) o0.out.1 hxb.out.1 hy8.out.1 (by simp) ?_
      intro v1 w1 ho1 hg1 ha1
      rw [List.nil_append] at ho1
      have hb1 : Below WD.heap.size WD w1 := below_via1 (below_alloc (Below.refl _ WD) (.cells #[] 26)) hg1 rfl rfl rfl rfl (by simp) (own_base (own_empty1 WD _ 26 _ (Nat.le_refl _) rfl))
      have ks1 := Lib.hid (KS.out _ hb1)
      replace hb1 := Lib.hid hb1
      replace ho1 := Lib.hid ho1
      clear ha1 hg1
      refine hK.out _ _ (fun _ => ks1.out) (fun _ => ?_)
      clear hK K
      try simp only [Act.put, List.setIfInBounds_toArray, List.set_cons_zero, List.set_cons_succ]
      refine wpAnyZ_ready (rs := [16]) (by kernel_rfl) (by simp) ?_
      refine AllReadyZ.cons1 ⟨?_, ?_, fun K hK => ?_⟩ AllReadyZ.nil
      rotate_left
      · simp only [List.getElem?_toArray, List.getElem?_cons_zero, List.getElem?_cons_succ]; rfl
      refine step_append_any _ rfl (.tmp 27) (.tmp 34) 57 rfl WD.heap.size 26 iu _ 1 8 Try.underlying57 hiu'.out zu0 zu1 zu2 rfl (by decide) v1 (0 + k) _ rfl ho1.out WD.heap.size _ (M.length - (k + 1)) (cn - (k + 1)) _ rfl (R2.out.below hb1.out) o0.out.2 hxb.out.2 hy8.out.2 hb1.out.size ?_
      intro v2 w2 ho2 hg2 ha2
      rw [hxl.out] at ho2
      obtain ⟨A2, cx, rfl, hcap2⟩ := own_slice_cap ho2
      have HCP1 := Lib.hid hcap2
      have hb2 : Below WD.heap.size WD w2 := below_via1 hb1.out hg2 rfl rfl rfl rfl hb1.out.size (own_base ho1.out)
      obtain ⟨ksa, ksb⟩ := KS.out _ hb2
      have XN := Lib.hid (XD.out.step0 ho2 hb2)
      clear ha2 hg2 ho2 hb2 hcap2 ho1 hb1 ks1
      refine hK.out _ _ (fun _ => ⟨ksa, ksb⟩) (fun _ => ?_)
      clear hK K
      try simp only [Act.put, List.setIfInBounds_toArray, List.set_cons_zero, List.set_cons_succ]
      refine wpAnyZ_ready (rs := [17]) (by kernel_rfl) (by simp) ?_
      refine AllReadyZ.cons1 ⟨?_, ?_, fun K hK => ?_⟩ AllReadyZ.nil
      rotate_left
      · simp only [List.getElem?_toArray, List.getElem?_cons_zero, List.getElem?_cons_succ]; rfl
      go_simp
      refine hK.out _ _ (fun _ => ⟨ksa, ksb⟩) (fun _ => ?_)
      clear hK K
      try simp only [Act.put, List.setIfInBounds_toArray, List.set_cons_zero, List.set_cons_succ]
      refine wpAnyZ_ready (rs := [18]) (by kernel_rfl) (by simp) ?_
      refine AllReadyZ.cons1 ⟨?_, ?_, fun K hK => ?_⟩ AllReadyZ.nil
      rotate_left
      · simp only [List.getElem?_toArray, List.getElem?_cons_zero, List.getElem?_cons_succ]; rfl
      go_simp
      refine hK.out _ _ (fun _ => ⟨ksa, ksb⟩) (fun _ => ?_)
      clear hK K
      try simp only [Act.put, List.setIfInBounds_toArray, List.set_cons_zero, List.set_cons_succ]
      refine wpAnyZ_ready (rs := [19]) (by kernel_rfl) (by simp) ?_
      refine AllReadyZ.cons1 ⟨?_, ?_, fun K hK => ?_⟩ AllReadyZ.nil
      rotate_left
      · simp only [List.getElem?_toArray, List.getElem?_cons_zero, List.getElem?_cons_succ]; rfl
      skip
      go_simp
      refine hK.out _ _ (fun h => absurd rfl h) (fun _ => ?_)
      clear hK K
      try simp only [Act.put, List.setIfInBounds_toArray, List.set_cons_zero, List.set_cons_succ]
      refine wpAnyZ_done (by kernel_rfl) ?_ _
      clear KS R1 R2 XD ksa ksb
      try simp only [hxl.out]
      have X1 := XN
      clear XN
      generalize w2.setCell _ _ = W1 at *
      go_upto_region 7 with fail
      have XD := Lib.hid (X1.out.below (below_drew (Below.refl _ _)))
      refine wp_region_z_drew (S := fun w' => w'.cell? { block := g, off := 1 } = some (.slice Am M.length cm) ∧ w'.frozen? { block := g, off := 1 } = false) (z := 19) (by kernel_rfl) ⟨XD.out.cells.2.1, XD.out.cells.2.2.2.2.1⟩ (fun hHeld => ?_)
      clear X1
      generalize W1.drew = WD at *
      refine wpAnyZ_take1 0 rfl (by decide) (by kernel_rfl) (by kernel_rfl) (by kernel_rfl) (by kernel_rfl) (fun d v c a w h => by cases d <;> exact h) (by assumption) ⟨?_, ?_, ?_, Or.inl ⟨?_, ?_⟩, ?_⟩
      rotate_left
      · simp only [List.getElem?_toArray, List.getElem?_cons_zero, List.getElem?_cons_succ]; rfl
      rotate_left
      · rfl
      · intro w hSw; (try dsimp only at hSw); go_simp; try (with_reducible rfl)
      simp only [Act.put, List.setIfInBounds_toArray, List.set_cons_zero, List.set_cons_succ]
      refine wpAnyZ_take1 2 rfl (by decide) (by kernel_rfl) (by kernel_rfl) (by kernel_rfl) (by kernel_rfl) (fun d v c a w h => by cases d <;> exact h) (by assumption) ⟨?_, ?_, ?_, Or.inl ⟨?_, ?_⟩, ?_⟩
      rotate_left
      · simp only [List.getElem?_toArray, List.getElem?_cons_zero, List.getElem?_cons_succ]; rfl
      rotate_left
      · rfl
      · intro w hSw; (try dsimp only at hSw); go_simp; try (with_reducible rfl)
      simp only [Act.put, List.setIfInBounds_toArray, List.set_cons_zero, List.set_cons_succ]
      refine wpAnyZ_take1 3 rfl (by decide) (by kernel_rfl) (by kernel_rfl) (by kernel_rfl) (by kernel_rfl) (fun d v c a w h => by cases d <;> exact h) (by assumption) ⟨?_, ?_, ?_, Or.inl ⟨?_, ?_⟩, ?_⟩
      rotate_left
      · simp only [List.getElem?_toArray, List.getElem?_cons_zero, List.getElem?_cons_succ]; rfl
      rotate_left
      · rfl
      · intro w hSw; (try dsimp only at hSw); go_simp; try (with_reducible rfl)
      simp only [Act.put, List.setIfInBounds_toArray, List.set_cons_zero, List.set_cons_succ]
      refine wpAnyZ_take1 4 rfl (by decide) (by kernel_rfl) (by kernel_rfl) (by kernel_rfl) (by kernel_rfl) (fun d v c a w h => by cases d <;> exact h) (by assumption) ⟨?_, ?_, ?_, Or.inl ⟨?_, ?_⟩, ?_⟩
      rotate_left
      · simp only [List.getElem?_toArray, List.getElem?_cons_zero, List.getElem?_cons_succ]; rfl
      rotate_left
      · rfl
      · intro w hSw; (try dsimp only at hSw); go_simp; try (with_reducible rfl)
      simp only [Act.put, List.setIfInBounds_toArray, List.set_cons_zero, List.set_cons_succ]
      refine wpAnyZ_take1 5 rfl (by decide) (by kernel_rfl) (by kernel_rfl) (by kernel_rfl) (by kernel_rfl) (fun d v c a w h => by cases d <;> exact h) (by assumption) ⟨?_, ?_, ?_, Or.inl ⟨?_, ?_⟩, ?_⟩
      rotate_left
      · simp only [List.getElem?_toArray, List.getElem?_cons_zero, List.getElem?_cons_succ]; rfl
      rotate_left
      · rfl
      · intro w hSw; (try dsimp only at hSw); go_simp; try (with_reducible rfl)
      simp only [Act.put, List.setIfInBounds_toArray, List.set_cons_zero, List.set_cons_succ]
      refine wpAnyZ_take1 6 rfl (by decide) (by kernel_rfl) (by kernel_rfl) (by kernel_rfl) (by kernel_rfl) (fun d v c a w h => by cases d <;> exact h) (by assumption) ⟨?_, ?_, ?_, Or.inl ⟨?_, ?_⟩, ?_⟩
      rotate_left
      · simp only [List.getElem?_toArray, List.getElem?_cons_zero, List.getElem?_cons_succ]; rfl
      rotate_left
      · rfl
      · intro w hSw; (try dsimp only at hSw); go_simp; try (with_reducible rfl)
      simp only [Act.put, List.setIfInBounds_toArray, List.set_cons_zero, List.set_cons_succ]
      refine wpAnyZ_take1 7 rfl (by decide) (by kernel_rfl) (by kernel_rfl) (by kernel_rfl) (by kernel_rfl) (fun d v c a w h => by cases d <;> exact h) (by assumption) ⟨?_, ?_, ?_, Or.inl ⟨?_, ?_⟩, ?_⟩
      rotate_left
      · simp only [List.getElem?_toArray, List.getElem?_cons_zero, List.getElem?_cons_succ]; rfl
      rotate_left
      · rfl
      · intro w hSw; (try dsimp only at hSw); go_simp; try (with_reducible rfl)
      simp only [Act.put, List.setIfInBounds_toArray, List.set_cons_zero, List.set_cons_succ]
      refine wpAnyZ_take1 9 rfl (by decide) (by kernel_rfl) (by kernel_rfl) (by kernel_rfl) (by kernel_rfl) (fun d v c a w h => by cases d <;> exact h) (by assumption) ⟨?_, ?_, ?_, Or.inl ⟨?_, ?_⟩, ?_⟩
      rotate_left
      · simp only [List.getElem?_toArray, List.getElem?_cons_zero, List.getElem?_cons_succ]; rfl
      rotate_left
      · rfl
      · intro w hSw; (try dsimp only at hSw); go_simp; try (with_reducible rfl)
      simp only [Act.put, List.setIfInBounds_toArray, List.set_cons_zero, List.set_cons_succ]
      refine wpAnyZ_take1 10 rfl (by decide) (by kernel_rfl) (by kernel_rfl) (by kernel_rfl) (by kernel_rfl) (fun d v c a w h => by cases d <;> exact h) (by assumption) ⟨?_, ?_, ?_, Or.inl ⟨?_, ?_⟩, ?_⟩
      rotate_left
      · simp only [List.getElem?_toArray, List.getElem?_cons_zero, List.getElem?_cons_succ]; rfl
      rotate_left
      · rfl
      · intro w hSw; (try dsimp only at hSw); go_simp; try (with_reducible rfl)
      simp only [Act.put, List.setIfInBounds_toArray, List.set_cons_zero, List.set_cons_succ]
      refine wpAnyZ_take1 11 rfl (by decide) (by kernel_rfl) (by kernel_rfl) (by kernel_rfl) (by kernel_rfl) (fun d v c a w h => by cases d <;> exact h) (by assumption) ⟨?_, ?_, ?_, Or.inl ⟨?_, ?_⟩, ?_⟩
      rotate_left
      · simp only [List.getElem?_toArray, List.getElem?_cons_zero, List.getElem?_cons_succ]; rfl
      rotate_left
      · rfl
      · intro w hSw; (try dsimp only at hSw); go_simp; try (with_reducible rfl)
      simp only [Act.put, List.setIfInBounds_toArray, List.set_cons_zero, List.set_cons_succ]
      refine wpAnyZ_take1 12 rfl (by decide) (by kernel_rfl) (by kernel_rfl) (by kernel_rfl) (by kernel_rfl) (fun d v c a w h => by cases d <;> exact h) (by assumption) ⟨?_, ?_, ?_, Or.inl ⟨?_, ?_⟩, ?_⟩
      rotate_left
      · simp only [List.getElem?_toArray, List.getElem?_cons_zero, List.getElem?_cons_succ]; rfl
      rotate_left
      · rfl
      · intro w hSw; (try dsimp only at hSw); go_simp; try (with_reducible rfl)
      simp only [Act.put, List.setIfInBounds_toArray, List.set_cons_zero, List.set_cons_succ]
      refine wpAnyZ_take1 13 rfl (by decide) (by kernel_rfl) (by kernel_rfl) (by kernel_rfl) (by kernel_rfl) (fun d v c a w h => by cases d <;> exact h) (by assumption) ⟨?_, ?_, ?_, Or.inl ⟨?_, ?_⟩, ?_⟩
      rotate_left
      · simp only [List.getElem?_toArray, List.getElem?_cons_zero, List.getElem?_cons_succ]; rfl
      rotate_left
      · rfl
      · intro w hSw; (try dsimp only at hSw); go_simp; try (with_reducible rfl)
      simp only [Act.put, List.setIfInBounds_toArray, List.set_cons_zero, List.set_cons_succ]
      refine wpAnyZ_take1 14 rfl (by decide) (by kernel_rfl) (by kernel_rfl) (by kernel_rfl) (by kernel_rfl) (fun d v c a w h => by cases d <;> exact h) (by assumption) ⟨?_, ?_, ?_, Or.inl ⟨?_, ?_⟩, ?_⟩
      rotate_left
      · simp only [List.getElem?_toArray, List.getElem?_cons_zero, List.getElem?_cons_succ]; rfl
      rotate_left
      · rfl
      · intro w hSw; (try dsimp only at hSw); go_simp; try (with_reducible rfl)
      simp only [Act.put, List.setIfInBounds_toArray, List.set_cons_zero, List.set_cons_succ]
      refine wpAnyZ_take1 15 rfl (by decide) (by kernel_rfl) (by kernel_rfl) (by kernel_rfl) (by kernel_rfl) (fun d v c a w h => by cases d <;> exact h) (by assumption) ⟨?_, ?_, ?_, Or.inl ⟨?_, ?_⟩, ?_⟩
      rotate_left
      · simp only [List.getElem?_toArray, List.getElem?_cons_zero, List.getElem?_cons_succ]; rfl
      rotate_left
      · rfl
      · intro w hSw; (try dsimp only at hSw); go_simp; try (with_reducible rfl)
      simp only [Act.put, List.setIfInBounds_toArray, List.set_cons_zero, List.set_cons_succ]
      clear hHeld
      have KS := Lib.hid (fun (w' : World) (h : Below WD.heap.size WD w') => (⟨(XD.out.below h).cells.2.1, (XD.out.below h).cells.2.2.2.2.1⟩ : w'.cell? { block := g, off := 1 } = some (.slice Am M.length cm) ∧ w'.frozen? { block := g, off := 1 } = false))
      have R1 := Lib.hid (reads_take1 (XD.out.rm.readsn' (n := M.length) (by simp)) (k := k) n1)
      have R2 := Lib.hid (reads_cut1 (XD.out.rm.readsn' (n := M.length) (by simp)) (k := k + 1) (c := cm) n2 hc2)
      refine wpAnyZ_ready (rs := [1]) (by kernel_rfl) (by simp) ?_
      refine AllReadyZ.cons1 ⟨?_, ?_, fun K hK => ?_⟩ AllReadyZ.nil
      rotate_left
      · simp only [List.getElem?_toArray, List.getElem?_cons_zero, List.getElem?_cons_succ]; rfl
      go_simp
      refine hK.out _ _ (fun _ => KS.out _ (below_alloc (Below.refl _ _) _)) (fun _ => ?_)
      clear hK K
      try simp only [Act.put, List.setIfInBounds_toArray, List.set_cons_zero, List.set_cons_succ]
      refine wpAnyZ_ready (rs := [8]) (by kernel_rfl) (by simp) ?_
      refine AllReadyZ.cons1 ⟨?_, ?_, fun K hK => ?_⟩ AllReadyZ.nil
      rotate_left
      · simp only [List.getElem?_toArray, List.getElem?_cons_zero, List.getElem?_cons_succ]; rfl
      refine step_append_any _ rfl (.tmp 39) (.tmp 45) 44 rfl WD.heap.size 3 ii _ 1 8 Try.underlying44 hii'.out zi0 zi1 zi2 rfl (by decide) (.slice (some ⟨WD.heap.size, 0, none⟩) 0 0) 0 [] rfl (own_empty1 WD _ _ _ (Nat.le_refl _) rfl) WD.heap.size _ k cm _ rfl (R1.out.alloc (Nat.le_refl _) _) o1.out.1 hxb.out.1 hy8.out.1 (by simp) ?_
      intro v1 w1 ho1 hg1 ha1
      rw [List.nil_append] at ho1
      have hb1 : Below WD.heap.size WD w1 := below_via1 (below_alloc (Below.refl _ WD) (.cells #[] 3)) hg1 rfl rfl rfl rfl (by simp) (own_base (own_empty1 WD _ 3 _ (Nat.le_refl _) rfl))
      have ks1 := Lib.hid (KS.out _ hb1)
      replace hb1 := Lib.hid hb1
      replace ho1 := Lib.hid ho1
      clear ha1 hg1
      refine hK.out _ _ (fun _ => ks1.out) (fun _ => ?_)
      clear hK K
      try simp only [Act.put, List.setIfInBounds_toArray, List.set_cons_zero, List.set_cons_succ]
      refine wpAnyZ_ready (rs := [16]) (by kernel_rfl) (by simp) ?_
      refine AllReadyZ.cons1 ⟨?_, ?_, fun K hK => ?_⟩ AllReadyZ.nil
      rotate_left
      · simp only [List.getElem?_toArray, List.getElem?_cons_zero, List.getElem?_cons_succ]; rfl
      refine step_append_any _ rfl (.tmp 46) (.tmp 53) 44 rfl WD.heap.size 3 ii _ 1 8 Try.underlying44 hii'.out zi0 zi1 zi2 rfl (by decide) v1 (0 + k) _ rfl ho1.out WD.heap.size _ (M.length - (k + 1)) (cm - (k + 1)) _ rfl (R2.out.below hb1.out) o1.out.2 hxb.out.2 hy8.out.2 hb1.out.size ?_
      intro v2 w2 ho2 hg2 ha2
      rw [hxl.out] at ho2
      obtain ⟨A2, cx, rfl, hcap2⟩ := own_slice_cap ho2
      have HCP2 := Lib.hid hcap2
      have hb2 : Below WD.heap.size WD w2 := below_via1 hb1.out hg2 rfl rfl rfl rfl hb1.out.size (own_base ho1.out)
      obtain ⟨ksa, ksb⟩ := KS.out _ hb2
      have XN := Lib.hid (XD.out.step1 ho2 hb2)
      clear ha2 hg2 ho2 hb2 hcap2 ho1 hb1 ks1
      refine hK.out _ _ (fun _ => ⟨ksa, ksb⟩) (fun _ => ?_)
      clear hK K
      try simp only [Act.put, List.setIfInBounds_toArray, List.set_cons_zero, List.set_cons_succ]
      refine wpAnyZ_ready (rs := [17]) (by kernel_rfl) (by simp) ?_
      refine AllReadyZ.cons1 ⟨?_, ?_, fun K hK => ?_⟩ AllReadyZ.nil
      rotate_left
      · simp only [List.getElem?_toArray, List.getElem?_cons_zero, List.getElem?_cons_succ]; rfl
      go_simp
      refine hK.out _ _ (fun _ => ⟨ksa, ksb⟩) (fun _ => ?_)
      clear hK K
      try simp only [Act.put, List.setIfInBounds_toArray, List.set_cons_zero, List.set_cons_succ]
      refine wpAnyZ_ready (rs := [18]) (by kernel_rfl) (by simp) ?_
      refine AllReadyZ.cons1 ⟨?_, ?_, fun K hK => ?_⟩ AllReadyZ.nil
      rotate_left
      · simp only [List.getElem?_toArray, List.getElem?_cons_zero, List.getElem?_cons_succ]; rfl
      go_simp
      refine hK.out _ _ (fun _ => ⟨ksa, ksb⟩) (fun _ => ?_)
      clear hK K
      try simp only [Act.put, List.setIfInBounds_toArray, List.set_cons_zero, List.set_cons_succ]
      refine wpAnyZ_ready (rs := [19]) (by kernel_rfl) (by simp) ?_
      refine AllReadyZ.cons1 ⟨?_, ?_, fun K hK => ?_⟩ AllReadyZ.nil
      rotate_left
      · simp only [List.getElem?_toArray, List.getElem?_cons_zero, List.getElem?_cons_succ]; rfl
      skip
      go_simp
      refine hK.out _ _ (fun h => absurd rfl h) (fun _ => ?_)
      clear hK K
      try simp only [Act.put, List.setIfInBounds_toArray, List.set_cons_zero, List.set_cons_succ]
      refine wpAnyZ_done (by kernel_rfl) ?_ _
      clear KS R1 R2 XD ksa ksb
      try simp only [hxl.out]
      have X2 := XN
      clear XN
      generalize w2.setCell _ _ = W2 at *
      go_upto_region 8 with fail
      have XD := Lib.hid (X2.out.below (below_drew (Below.refl _ _)))
      refine wp_region_z_drew (S := fun w' => w'.cell? { block := g, off := 2 } = some (.slice Ao M.length co) ∧ w'.frozen? { block := g, off := 2 } = false) (z := 19) (by kernel_rfl) ⟨XD.out.cells.2.2.1, XD.out.cells.2.2.2.2.2⟩ (fun hHeld => ?_)
      clear X2
      generalize W2.drew = WD at *
      refine wpAnyZ_take1 0 rfl (by decide) (by kernel_rfl) (by kernel_rfl) (by kernel_rfl) (by kernel_rfl) (fun d v c a w h => by cases d <;> exact h) (by assumption) ⟨?_, ?_, ?_, Or.inl ⟨?_, ?_⟩, ?_⟩
      rotate_left
      · simp only [List.getElem?_toArray, List.getElem?_cons_zero, List.getElem?_cons_succ]; rfl
      rotate_left
      · rfl
      · intro w hSw; (try dsimp only at hSw); go_simp; try (with_reducible rfl)
      simp only [Act.put, List.setIfInBounds_toArray, List.set_cons_zero, List.set_cons_succ]
      refine wpAnyZ_take1 2 rfl (by decide) (by kernel_rfl) (by kernel_rfl) (by kernel_rfl) (by kernel_rfl) (fun d v c a w h => by cases d <;> exact h) (by assumption) ⟨?_, ?_, ?_, Or.inl ⟨?_, ?_⟩, ?_⟩
      rotate_left
      · simp only [List.getElem?_toArray, List.getElem?_cons_zero, List.getElem?_cons_succ]; rfl
      rotate_left
      · rfl
      · intro w hSw; (try dsimp only at hSw); go_simp; try (with_reducible rfl)
      simp only [Act.put, List.setIfInBounds_toArray, List.set_cons_zero, List.set_cons_succ]
      refine wpAnyZ_take1 3 rfl (by decide) (by kernel_rfl) (by kernel_rfl) (by kernel_rfl) (by kernel_rfl) (fun d v c a w h => by cases d <;> exact h) (by assumption) ⟨?_, ?_, ?_, Or.inl ⟨?_, ?_⟩, ?_⟩
      rotate_left
      · simp only [List.getElem?_toArray, List.getElem?_cons_zero, List.getElem?_cons_succ]; rfl
      rotate_left
      · rfl
      · intro w hSw; (try dsimp only at hSw); go_simp; try (with_reducible rfl)
      simp only [Act.put, List.setIfInBounds_toArray, List.set_cons_zero, List.set_cons_succ]
      refine wpAnyZ_take1 4 rfl (by decide) (by kernel_rfl) (by kernel_rfl) (by kernel_rfl) (by kernel_rfl) (fun d v c a w h => by cases d <;> exact h) (by assumption) ⟨?_, ?_, ?_, Or.inl ⟨?_, ?_⟩, ?_⟩
      rotate_left
      · simp only [List.getElem?_toArray, List.getElem?_cons_zero, List.getElem?_cons_succ]; rfl
      rotate_left
      · rfl
      · intro w hSw; (try dsimp only at hSw); go_simp; try (with_reducible rfl)
      simp only [Act.put, List.setIfInBounds_toArray, List.set_cons_zero, List.set_cons_succ]
      refine wpAnyZ_take1 5 rfl (by decide) (by kernel_rfl) (by kernel_rfl) (by kernel_rfl) (by kernel_rfl) (fun d v c a w h => by cases d <;> exact h) (by assumption) ⟨?_, ?_, ?_, Or.inl ⟨?_, ?_⟩, ?_⟩
      rotate_left
      · simp only [List.getElem?_toArray, List.getElem?_cons_zero, List.getElem?_cons_succ]; rfl
      rotate_left
      · rfl
      · intro w hSw; (try dsimp only at hSw); go_simp; try (with_reducible rfl)
      simp only [Act.put, List.setIfInBounds_toArray, List.set_cons_zero, List.set_cons_succ]
      refine wpAnyZ_take1 6 rfl (by decide) (by kernel_rfl) (by kernel_rfl) (by kernel_rfl) (by kernel_rfl) (fun d v c a w h => by cases d <;> exact h) (by assumption) ⟨?_, ?_, ?_, Or.inl ⟨?_, ?_⟩, ?_⟩
      rotate_left
      · simp only [List.getElem?_toArray, List.getElem?_cons_zero, List.getElem?_cons_succ]; rfl
      rotate_left
      · rfl
      · intro w hSw; (try dsimp only at hSw); go_simp; try (with_reducible rfl)
      simp only [Act.put, List.setIfInBounds_toArray, List.set_cons_zero, List.set_cons_succ]
      refine wpAnyZ_take1 7 rfl (by decide) (by kernel_rfl) (by kernel_rfl) (by kernel_rfl) (by kernel_rfl) (fun d v c a w h => by cases d <;> exact h) (by assumption) ⟨?_, ?_, ?_, Or.inl ⟨?_, ?_⟩, ?_⟩
      rotate_left
      · simp only [List.getElem?_toArray, List.getElem?_cons_zero, List.getElem?_cons_succ]; rfl
      rotate_left
      · rfl
      · intro w hSw; (try dsimp only at hSw); go_simp; try (with_reducible rfl)
      simp only [Act.put, List.setIfInBounds_toArray, List.set_cons_zero, List.set_cons_succ]
      refine wpAnyZ_take1 9 rfl (by decide) (by kernel_rfl) (by kernel_rfl) (by kernel_rfl) (by kernel_rfl) (fun d v c a w h => by cases d <;> exact h) (by assumption) ⟨?_, ?_, ?_, Or.inl ⟨?_, ?_⟩, ?_⟩
      rotate_left
      · simp only [List.getElem?_toArray, List.getElem?_cons_zero, List.getElem?_cons_succ]; rfl
      rotate_left
      · rfl
      · intro w hSw; (try dsimp only at hSw); go_simp; try (with_reducible rfl)
      simp only [Act.put, List.setIfInBounds_toArray, List.set_cons_zero, List.set_cons_succ]
      refine wpAnyZ_take1 10 rfl (by decide) (by kernel_rfl) (by kernel_rfl) (by kernel_rfl) (by kernel_rfl) (fun d v c a w h => by cases d <;> exact h) (by assumption) ⟨?_, ?_, ?_, Or.inl ⟨?_, ?_⟩, ?_⟩
      rotate_left
      · simp only [List.getElem?_toArray, List.getElem?_cons_zero, List.getElem?_cons_succ]; rfl
      rotate_left
      · rfl
      · intro w hSw; (try dsimp only at hSw); go_simp; try (with_reducible rfl)
      simp only [Act.put, List.setIfInBounds_toArray, List.set_cons_zero, List.set_cons_succ]
      refine wpAnyZ_take1 11 rfl (by decide) (by kernel_rfl) (by kernel_rfl) (by kernel_rfl) (by kernel_rfl) (fun d v c a w h => by cases d <;> exact h) (by assumption) ⟨?_, ?_, ?_, Or.inl ⟨?_, ?_⟩, ?_⟩
      rotate_left
      · simp only [List.getElem?_toArray, List.getElem?_cons_zero, List.getElem?_cons_succ]; rfl
      rotate_left
      · rfl
      · intro w hSw; (try dsimp only at hSw); go_simp; try (with_reducible rfl)
      simp only [Act.put, List.setIfInBounds_toArray, List.set_cons_zero, List.set_cons_succ]
      refine wpAnyZ_take1 12 rfl (by decide) (by kernel_rfl) (by kernel_rfl) (by kernel_rfl) (by kernel_rfl) (fun d v c a w h => by cases d <;> exact h) (by assumption) ⟨?_, ?_, ?_, Or.inl ⟨?_, ?_⟩, ?_⟩
      rotate_left
      · simp only [List.getElem?_toArray, List.getElem?_cons_zero, List.getElem?_cons_succ]; rfl
      rotate_left
      · rfl
      · intro w hSw; (try dsimp only at hSw); go_simp; try (with_reducible rfl)
      simp only [Act.put, List.setIfInBounds_toArray, List.set_cons_zero, List.set_cons_succ]
      refine wpAnyZ_take1 13 rfl (by decide) (by kernel_rfl) (by kernel_rfl) (by kernel_rfl) (by kernel_rfl) (fun d v c a w h => by cases d <;> exact h) (by assumption) ⟨?_, ?_, ?_, Or.inl ⟨?_, ?_⟩, ?_⟩
      rotate_left
      · simp only [List.getElem?_toArray, List.getElem?_cons_zero, List.getElem?_cons_succ]; rfl
      rotate_left
      · rfl
      · intro w hSw; (try dsimp only at hSw); go_simp; try (with_reducible rfl)
      simp only [Act.put, List.setIfInBounds_toArray, List.set_cons_zero, List.set_cons_succ]
      refine wpAnyZ_take1 14 rfl (by decide) (by kernel_rfl) (by kernel_rfl) (by kernel_rfl) (by kernel_rfl) (fun d v c a w h => by cases d <;> exact h) (by assumption) ⟨?_, ?_, ?_, Or.inl ⟨?_, ?_⟩, ?_⟩
      rotate_left
      · simp only [List.getElem?_toArray, List.getElem?_cons_zero, List.getElem?_cons_succ]; rfl
      rotate_left
      · rfl
      · intro w hSw; (try dsimp only at hSw); go_simp; try (with_reducible rfl)
      simp only [Act.put, List.setIfInBounds_toArray, List.set_cons_zero, List.set_cons_succ]
      refine wpAnyZ_take1 15 rfl (by decide) (by kernel_rfl) (by kernel_rfl) (by kernel_rfl) (by kernel_rfl) (fun d v c a w h => by cases d <;> exact h) (by assumption) ⟨?_, ?_, ?_, Or.inl ⟨?_, ?_⟩, ?_⟩
      rotate_left
      · simp only [List.getElem?_toArray, List.getElem?_cons_zero, List.getElem?_cons_succ]; rfl
      rotate_left
      · rfl
      · intro w hSw; (try dsimp only at hSw); go_simp; try (with_reducible rfl)
      simp only [Act.put, List.setIfInBounds_toArray, List.set_cons_zero, List.set_cons_succ]
      clear hHeld
      have KS := Lib.hid (fun (w' : World) (h : Below WD.heap.size WD w') => (⟨(XD.out.below h).cells.2.2.1, (XD.out.below h).cells.2.2.2.2.2⟩ : w'.cell? { block := g, off := 2 } = some (.slice Ao M.length co) ∧ w'.frozen? { block := g, off := 2 } = false))
      have R1 := Lib.hid (reads_take1 (XD.out.ro.readsn' (n := M.length) (by simp)) (k := k) n1)
      have R2 := Lib.hid (reads_cut1 (XD.out.ro.readsn' (n := M.length) (by simp)) (k := k + 1) (c := co) n2 hc3)
      refine wpAnyZ_ready (rs := [1]) (by kernel_rfl) (by simp) ?_
      refine AllReadyZ.cons1 ⟨?_, ?_, fun K hK => ?_⟩ AllReadyZ.nil
      rotate_left
      · simp only [List.getElem?_toArray, List.getElem?_cons_zero, List.getElem?_cons_succ]; rfl
      go_simp
      refine hK.out _ _ (fun _ => KS.out _ (below_alloc (Below.refl _ _) _)) (fun _ => ?_)
      clear hK K
      try simp only [Act.put, List.setIfInBounds_toArray, List.set_cons_zero, List.set_cons_succ]
      refine wpAnyZ_ready (rs := [8]) (by kernel_rfl) (by simp) ?_
      refine AllReadyZ.cons1 ⟨?_, ?_, fun K hK => ?_⟩ AllReadyZ.nil
      rotate_left
      · simp only [List.getElem?_toArray, List.getElem?_cons_zero, List.getElem?_cons_succ]; rfl
      refine step_append_any _ rfl (.tmp 58) (.tmp 64) 58 rfl WD.heap.size 4 ib _ 1 1 Try.underlying58 hib'.out zb0 zb1 zb2 rfl (by decide) (.slice (some ⟨WD.heap.size, 0, none⟩) 0 0) 0 [] rfl (own_empty1 WD _ _ _ (Nat.le_refl _) rfl) WD.heap.size _ k co _ rfl (R1.out.alloc (Nat.le_refl _) _) o2.out.1 hxb.out.1 hy1.out.1 (by simp) ?_
      intro v1 w1 ho1 hg1 ha1
      rw [List.nil_append] at ho1
      have hb1 : Below WD.heap.size WD w1 := below_via1 (below_alloc (Below.refl _ WD) (.cells #[] 4)) hg1 rfl rfl rfl rfl (by simp) (own_base (own_empty1 WD _ 4 _ (Nat.le_refl _) rfl))
      have ks1 := Lib.hid (KS.out _ hb1)
      replace hb1 := Lib.hid hb1
      replace ho1 := Lib.hid ho1
      clear ha1 hg1
      refine hK.out _ _ (fun _ => ks1.out) (fun _ => ?_)
      clear hK K
      try simp only [Act.put, List.setIfInBounds_toArray, List.set_cons_zero, List.set_cons_succ]
      refine wpAnyZ_ready (rs := [16]) (by kernel_rfl) (by simp) ?_
      refine AllReadyZ.cons1 ⟨?_, ?_, fun K hK => ?_⟩ AllReadyZ.nil
      rotate_left
      · simp only [List.getElem?_toArray, List.getElem?_cons_zero, List.getElem?_cons_succ]; rfl
      refine step_append_any _ rfl (.tmp 65) (.tmp 72) 58 rfl WD.heap.size 4 ib _ 1 1 Try.underlying58 hib'.out zb0 zb1 zb2 rfl (by decide) v1 (0 + k) _ rfl ho1.out WD.heap.size _ (M.length - (k + 1)) (co - (k + 1)) _ rfl (R2.out.below hb1.out) o2.out.2 hxb.out.2 hy1.out.2 hb1.out.size ?_
      intro v2 w2 ho2 hg2 ha2
      rw [hxl.out] at ho2
      obtain ⟨A2, cx, rfl, hcap2⟩ := own_slice_cap ho2
      have HCP3 := Lib.hid hcap2
      have hb2 : Below WD.heap.size WD w2 := below_via1 hb1.out hg2 rfl rfl rfl rfl hb1.out.size (own_base ho1.out)
      obtain ⟨ksa, ksb⟩ := KS.out _ hb2
      have XN := Lib.hid (XD.out.step2 ho2 hb2)
      clear ha2 hg2 ho2 hb2 hcap2 ho1 hb1 ks1
      refine hK.out _ _ (fun _ => ⟨ksa, ksb⟩) (fun _ => ?_)
      clear hK K
      try simp only [Act.put, List.setIfInBounds_toArray, List.set_cons_zero, List.set_cons_succ]
      refine wpAnyZ_ready (rs := [17]) (by kernel_rfl) (by simp) ?_
      refine AllReadyZ.cons1 ⟨?_, ?_, fun K hK => ?_⟩ AllReadyZ.nil
      rotate_left
      · simp only [List.getElem?_toArray, List.getElem?_cons_zero, List.getElem?_cons_succ]; rfl
      go_simp
      refine hK.out _ _ (fun _ => ⟨ksa, ksb⟩) (fun _ => ?_)
      clear hK K
      try simp only [Act.put, List.setIfInBounds_toArray, List.set_cons_zero, List.set_cons_succ]
      refine wpAnyZ_ready (rs := [18]) (by kernel_rfl) (by simp) ?_
      refine AllReadyZ.cons1 ⟨?_, ?_, fun K hK => ?_⟩ AllReadyZ.nil
      rotate_left
      · simp only [List.getElem?_toArray, List.getElem?_cons_zero, List.getElem?_cons_succ]; rfl
      go_simp
      refine hK.out _ _ (fun _ => ⟨ksa, ksb⟩) (fun _ => ?_)
      clear hK K
      try simp only [Act.put, List.setIfInBounds_toArray, List.set_cons_zero, List.set_cons_succ]
      refine wpAnyZ_ready (rs := [19]) (by kernel_rfl) (by simp) ?_
      refine AllReadyZ.cons1 ⟨?_, ?_, fun K hK => ?_⟩ AllReadyZ.nil
      rotate_left
      · simp only [List.getElem?_toArray, List.getElem?_cons_zero, List.getElem?_cons_succ]; rfl
      skip
      go_simp
      refine hK.out _ _ (fun h => absurd rfl h) (fun _ => ?_)
      clear hK K
      try simp only [Act.put, List.setIfInBounds_toArray, List.set_cons_zero, List.set_cons_succ]
      refine wpAnyZ_done (by kernel_rfl) ?_ _
      clear KS R1 R2 XD ksa ksb
      try simp only [hxl.out]
      have X3 := XN
      clear XN
      generalize w2.setCell _ _ = W3 at *
      have hel : (M.eraseIdx k).length = M.length - 1 := by rw [List.length_eraseIdx, if_pos hlt]
      have ML : (M.eraseIdx k).length = M.length - 1 := hel
      replace hel := Lib.hid hel
      clear ML hc1 hc2 hc3 b0 b1 b2 b3 b4 b6 b2' c1 c3 c4 c5 c6 n1 n2
      go_wp2
      all_goals
       go_ret
       refine ⟨by rw [hC.out]; rfl, ?_, X3.out.chg⟩
       rw [hM.out hC.out]
       exact ⟨_, _, _, _, _, _, X3.out.tab hel.out (erase_map _ M k) (erase_map _ M k) (erase_map _ M k), by rw [hel.out]; exact ⟨HCP1.out, HCP2.out, HCP3.out⟩⟩
end Go.Proofs.Ytonlbeonblpblaa.All
