/-
  The example that every law of chapter 36 asks first is as the document tells. No condition. Is a calendar right, of rules that are, at most sixteen? No condition but that the rules lie as their row says. The document's table in Go's memory, and a moment more in it where it goes through. No condition but that it lies as its rows say. The tables that the laws make: their rows, in plain words; and what lies ahead of a moment more in them. The tables that the laws make, walked where none is released.
-/
import Derived.Test.YtonlbeonblpblaaDoorT2
namespace Go.Proofs.YtonlbeonblpblaaDoor.A36
open Go.RowKit Go.Proofs.YtonlbeonblpblaaDoorW.PrintWords Go.Proofs.YtonlbeonblpblaaDoorW.PrintLast Go.Proofs.YtonlbeonblpblaaDoorW.PrintMore Go.Proofs.YtonlbeonblpblaaDoor.Wd
set_option linter.unusedVariables false
set_option linter.unusedSimpArgs false
private theorem ymAwake (motive : Option Value → Sort _) (h1 : (b : Bool) → motive (some (.bool b))) (h2 : (x : Option Value) → motive x) : Go.yielded.match_1 motive (some undef) h1 h2 = h2 (some undef) := rfl
attribute [local go_sem, local simp] ymAwake
theorem own_tk {base b : Nat} {w w2 : World} {kb e size n : Nat} {v : Value} {xs : List Value} {hv : Value} (h : w.ownsRow kb e size v n xs) (t : TK base b w w2) (hb : w.heap[b]? = some (.cells #[hv] 91)) (he : e ≠ 93) (he2 : e ≠ 91) : w2.ownsRow kb e size v n xs :=
  ⟨h.1, h.2.imp id fun ⟨g, cap, cur, e1, e2, e3, e4⟩ => ⟨g, cap, cur, e1, e2, t.kind g _ e3 (heap_ne e3 hb (fun h => by injection h with _ h; exact he2 h)) (fun c h => by injection h with _ h; exact he h), e4⟩⟩
theorem KAt.tk {base b : Nat} {w w2 : World} {kb : Nat} {A : Option Addr} {c : Nat} {ks : List (Ru × Nat)} {hv : Value} (h : KAt w kb A c ks) (t : TK base b w w2) (hb : w.heap[b]? = some (.cells #[hv] 91)) : KAt w2 kb A c ks :=
  ⟨own_tk h.own t hb (by decide) (by decide), fun p hp => t.kind _ _ (h.bx p hp) (heap_ne (h.bx p hp) hb (by simp)) (fun cur h => by injection h with _ h; exact absurd h (by decide))⟩
/-- What a law keeps: the table, a calendar, what was there. -/
structure KT (w wr : World) (base b : Nat) (M : List It) (kb : Nat) (A : Option Addr) (c : Nat) (ks : List (Ru × Nat)) : Prop where
  t : ∃ A c, TAt wr base b A c M
  k : KAt wr kb A c ks
  bel : Below w.heap.size w wr
  l1 : w.heap.size ≤ base
  l2 : w.heap.size ≤ b
  l3 : base ≤ wr.heap.size
theorem KT.below {w wr w2 : World} {base b : Nat} {M : List It} {kb : Nat} {A : Option Addr} {c : Nat} {ks : List (Ru × Nat)} (h : KT w wr base b M kb A c ks) (hb : Below wr.heap.size wr w2) : KT w w2 base b M kb A c ks :=
  ⟨let ⟨A, c, ht⟩ := h.t; ⟨A, c, ht.below hb⟩, h.k.below hb, h.bel.trans (hb.mono h.bel.size), h.l1, h.l2, Nat.le_trans h.l3 hb.size⟩
theorem KT.tk {w wr w2 : World} {base b : Nat} {M M2 : List It} {kb : Nat} {A : Option Addr} {c : Nat} {ks : List (Ru × Nat)} (h : KT w wr base b M kb A c ks) (t : TK base b wr w2) (ht : ∃ A c, TAt w2 base b A c M2) : KT w w2 base b M2 kb A c ks :=
  ⟨ht, let ⟨_, _, h0⟩ := h.t; h.k.tk t h0.head, t.below h.bel h.l1 h.l2 h.bel.size, h.l1, h.l2, Nat.le_trans h.l3 t.size⟩
theorem KT.add {w wr : World} {base b : Nat} {M : List It} {kb : Nat} {A : Option Addr} {c : Nat} {ks : List (Ru × Nat)} (h : KT w wr base b M kb A c ks) (hl : M.length ≤ 1000) (num m : Int) :
    Calls Tryd.prog 13 #[.pointer (some ⟨b, 0, none⟩), .int .u64 num, .int .i64 m] wr fun e w' => e = .returned (.int .i64 (addC M num m)) ∧ KT w w' base b (addM M num m) kb A c ks ∧ TK base b wr w' := by
  obtain ⟨A', c', ht⟩ := h.t
  exact (add_calls ht num m hl h.l3).mono fun e w' ⟨he, hx, hk⟩ => ⟨he, h.tk hk hx, hk⟩
theorem KT.till {w wr : World} {base b : Nat} {M : List It} {kb : Nat} {A : Option Addr} {c : Nat} {ks : List (Ru × Nat)} {N : Int × Bool} (h : KT w wr base b M kb A c ks) (g : Good M) (hl : ks.length ≤ 16) (hf : ∀ p ∈ ks, 0 ≤ p.1.f ∧ p.1.f ≤ 1073741824) (hN : 0 ≤ N.1 ∧ N.1 ≤ 1073741824) (num : Int) :
    Calls Tryd.prog 11 #[.agg #[.slice A ks.length c, .int .i64 N.1, .bool N.2], .pointer (some ⟨b, 0, none⟩), .int .u64 num] wr fun e w' => e = .returned (.int .i64 (tillF M num N (ks.map (·.1)))) ∧ Below wr.heap.size wr w' := by
  obtain ⟨A', c', ht⟩ := h.t
  exact till_calls g ht h.k hl hf hN num
def L0 : List Ru := [⟨1, 0, 60⟩, ⟨2, 10, 100⟩]
def M2 : List It := [⟨1, 12, false⟩, ⟨2, 17, false⟩]
theorem good2 : Good M2 := by
  refine ⟨fun i j hi hj h => ?_, fun x hx => ?_, by decide⟩
  · have hi : i < 2 := hi
    have hj : j < 2 := hj
    obtain rfl : i = 0 := by omega
    obtain rfl : j = 1 := by omega
    show (1 : Int) < 2
    decide
  · unfold M2 at hx
    simp only [List.mem_cons, List.not_mem_nil, or_false] at hx
    rcases hx with rfl | rfl <;> decide
theorem row0 {w : World} : RuRow (w.alloc (.cells #[.int .i64 1, .int .i64 0, .int .i64 60, .int .i64 2, .int .i64 10, .int .i64 100] 46)) (w.alloc (.cells #[.int .i64 1, .int .i64 0, .int .i64 60, .int .i64 2, .int .i64 10, .int .i64 100] 46)).heap.size (some ⟨w.heap.size, 0, none⟩) L0 := fun _ => by
  have h := heap_alloc_new w (.cells #[.int .i64 1, .int .i64 0, .int .i64 60, .int .i64 2, .int .i64 10, .int .i64 100] 46)
  refine ⟨_, rfl, by simp, fun i hi => ?_⟩
  have hi : i < 2 := hi
  have e1 : Addr.add ⟨w.heap.size, 0, none⟩ (i * 3) = ⟨w.heap.size, i * 3, none⟩ := by
    unfold Addr.add
    split
    · rename_i e0; rw [e0]
    · simp
  obtain rfl | rfl : i = 0 ∨ i = 1 := by omega
  · exact ⟨by rw [e1]; exact cell_of_row _ _ 0 _ _ (0, 0) h, by rw [e1]; exact cell_of_row _ _ 1 _ _ (0, 0) h, by rw [e1]; exact cell_of_row _ _ 2 _ _ (0, 0) h⟩
  · exact ⟨by rw [e1]; exact cell_of_row _ _ 3 _ _ (0, 0) h, by rw [e1]; exact cell_of_row _ _ 4 _ _ (0, 0) h, by rw [e1]; exact cell_of_row _ _ 5 _ _ (0, 0) h⟩
set_option maxRecDepth 100000 in
set_option maxHeartbeats 2000000 in
theorem awake_calls (w : World) : Calls Tryd.prog 4 #[] w fun e w' => e = .returned (.bool true) ∧ Below w.heap.size w w' := by
  have CC := Lib.hid (compile_ok (c0 := 2) (row0 (w := w)) (by decide) (fun r hr => by
    unfold L0 at hr
    simp only [List.mem_cons, List.not_mem_nil, or_false] at hr
    rcases hr with rfl | rfl <;> decide))
  go_enter Tryd.func4, Tryd.ntmps4
  go_upto_region 2 with (go_at_call 8; refine CC.out.mono ?_; rintro e w3 ⟨A, c, ks, rfl, hk3, hm3, hb3⟩; have HB3 := Lib.hid (below_alloc (Below.refl _ w) _ |>.trans (hb3.mono (by simp))); replace hk3 := Lib.hid hk3; replace hm3 := Lib.hid hm3; clear hb3; rw [show neverF L0 = (0, false) from rfl])
  have hkl : ks.length = 2 := by
    have := congrArg List.length hm3.out
    rwa [List.length_map] at this
  have HKL := Lib.hid hkl
  have hfk := Lib.hid (show ∀ p ∈ ks, 0 ≤ p.1.f ∧ p.1.f ≤ 1073741824 from fun p hp => by
    have h : p.1 ∈ ksOf L0 := by rw [← hm3.out]; exact List.mem_map_of_mem hp
    have h : p.1 ∈ L0 := h
    unfold L0 at h
    simp only [List.mem_cons, List.not_mem_nil, or_false] at h
    rcases h with h | h <;> rw [h] <;> decide)
  clear hkl CC
  go_upto_region 3 with (go_at_call 12; refine (new_calls _).mono ?_; rintro e w4 ⟨rfl, ht4, hb4⟩; have H4 := Lib.hid (show KT w w4 _ _ [] _ A c ks from ⟨⟨_, _, ht4⟩, (hk3.out.below (below_alloc (Below.refl _ _) (.cells #[.slice A ks.length c, .int .i64 0, .bool false] 34))).below hb4, (HB3.out.trans (Below.mono (below_alloc (Below.refl _ _) (.cells #[.slice A ks.length c, .int .i64 0, .bool false] 34)) HB3.out.size)).trans (hb4.mono (Nat.le_trans HB3.out.size (by simp))), Nat.le_trans HB3.out.size (by simp), Nat.le_trans HB3.out.size (by simp), hb4.size⟩); have hx4 := (hb4.block w3.heap.size (by simp)).trans (heap_alloc_new w3 (.cells #[.slice A ks.length c, .int .i64 0, .bool false] 34)); replace hx4 := Lib.hid hx4; clear ht4 hb4)
  rw [World.size_alloc] at H4
  obtain ⟨b, hbb⟩ : ∃ b, w3.heap.size + 1 = b := ⟨_, rfl⟩
  have hneb : w3.heap.size ≠ b := by omega
  rw [hbb] at H4
  rw [hbb]
  have A1 := (H4.out.add (by decide) 1 12)
  rw [show addC [] 1 12 = 0 from rfl, show addM [] 1 12 = [⟨1, 12, false⟩] by unfold addM; rw [show addC [] 1 12 = 0 from rfl]; rfl] at A1
  replace A1 := Lib.hid A1
  have TV1 : tillF M2 1 (0, false) L0 = 72 := by kernel_rfl
  have TV2 : tillF M2 2 (0, false) L0 = 117 := by
    have e1 : raw M2 2 (0, false) L0 = [77, 117] := by kernel_rfl
    unfold tillF minsF
    rw [if_pos (show hit M2 2 = true by kernel_rfl), e1, List.mergeSort_of_pairwise (by decide)]
    show (Lib.compact ([77, 117] : List Int)).getLastD 0 = 117
    kernel_rfl
  have TC := Lib.hid (fun (kb : Nat) (wr : World) (num v : Int) (hv : tillF M2 num (0, false) L0 = v) (h : KT w wr b b M2 kb A c ks) => (by
    have := h.till (N := (0, false)) good2 (by rw [HKL.out]; decide) hfk.out (by decide) num
    rw [hm3.out, show ksOf L0 = L0 from rfl, hv] at this
    exact this : Calls Tryd.prog 11 #[.agg #[.slice A ks.length c, .int .i64 0, .bool false], .pointer (some ⟨b, 0, none⟩), .int .u64 num] wr fun e w' => e = .returned (.int .i64 v) ∧ Below wr.heap.size wr w'))
  clear hfk hm3 hk3 HKL
  replace TV1 := Lib.hid TV1
  replace TV2 := Lib.hid TV2
  go_wp2_with (first
    | (go_at_call 13; (with_reducible refine A1.out.mono ?_); rintro e w5 ⟨rfl, h5, t5⟩; have hx5 := t5.kind _ _ hx4.out hneb (fun cur h => by injection h with _ h; exact absurd h (by decide)); have A2 := h5.add (by decide) 2 17; rw [show addC [⟨1, 12, false⟩] 2 17 = 0 from rfl, show addM [⟨1, 12, false⟩] 2 17 = M2 by unfold addM; rw [show addC [⟨1, 12, false⟩] 2 17 = 0 from rfl]; rfl] at A2; replace A2 := Lib.hid A2; replace hx5 := Lib.hid hx5; clear h5 t5)
    | (go_at_call 13; refine A2.out.mono ?_; rintro e w6 ⟨rfl, h6, t6⟩; have hx6 := t6.kind _ _ hx5.out hneb (fun cur h => by injection h with _ h; exact absurd h (by decide)); have y0 := cell_of_row w6 w3.heap.size 0 _ _ (0, 0) hx6; have y1 := cell_of_row w6 w3.heap.size 1 _ _ (0, 0) hx6; have y2 := cell_of_row w6 w3.heap.size 2 _ _ (0, 0) hx6; simp only [List.size_toArray, List.getElem?_toArray, List.getElem?_cons_zero, List.getElem?_cons_succ] at y0 y1 y2; replace hx6 := Lib.hid hx6; replace h6 := Lib.hid h6; clear t6)
    | (go_at_call 11; (with_reducible refine (TC.out _ _ 1 72 TV1.out h6.out).mono ?_); rintro e w7 ⟨rfl, hb7⟩; have hx7 := (hb7.block _ (lt_heap hx6.out)).trans hx6.out; clear y0 y1 y2; have y0 := cell_of_row w7 w3.heap.size 0 _ _ (0, 0) hx7; have y1 := cell_of_row w7 w3.heap.size 1 _ _ (0, 0) hx7; have y2 := cell_of_row w7 w3.heap.size 2 _ _ (0, 0) hx7; simp only [List.size_toArray, List.getElem?_toArray, List.getElem?_cons_zero, List.getElem?_cons_succ] at y0 y1 y2; replace hx7 := Lib.hid hx7; have h7 := Lib.hid (h6.out.below hb7); clear hb7)
    | (go_at_call 11; refine (TC.out _ _ 2 117 TV2.out h7.out).mono ?_; rintro e w8 ⟨rfl, hb8⟩; have h8 := Lib.hid (h7.out.below hb8); clear hb8))
  go_ret
  exact ⟨rfl, h8.out.bel⟩
end Go.Proofs.YtonlbeonblpblaaDoor.A36
namespace Go.Proofs.YtonlbeonblpblaaDoor.A36
open Go.RowKit Go.Proofs.YtonlbeonblpblaaDoorW.PrintWords Go.Proofs.YtonlbeonblpblaaDoorW.PrintLast Go.Proofs.YtonlbeonblpblaaDoorW.PrintMore Go.Proofs.YtonlbeonblpblaaDoor.Wd
set_option linter.unusedVariables false
set_option linter.unusedSimpArgs false
private theorem ymRight16 (motive : Option Value → Sort _) (h1 : (b : Bool) → motive (some (.bool b))) (h2 : (x : Option Value) → motive x) : Go.yielded.match_1 motive (some undef) h1 h2 = h2 (some undef) := rfl
attribute [local go_sem, local simp] ymRight16
def rightL (L : List Ru) : Bool := decide (L.length ≤ 16) && L.all rightB
def rightV (L : List Ru) : Int := if rightL L = true then 1 else 0
theorem rightV_yes {L : List Ru} (h : rightL L = true) : rightV L = 1 := by unfold rightV; rw [if_pos h]
theorem rightV_no {L : List Ru} (h : rightL L = false) : rightV L = 0 := by unfold rightV; rw [h]; rfl
set_option maxRecDepth 100000 in
set_option maxHeartbeats 2000000 in
theorem right16_calls {L : List Ru} {A0 : Option Addr} {c0 : Nat} {w : World} (hR : RuRow w w.heap.size A0 L) (hl : L.length ≤ maxLen) :
    Calls Tryd.prog 5 #[.slice A0 L.length c0] w fun e w' => e = .returned (.int .i64 (rightV L)) ∧ Below w.heap.size w w' := by
  have RC := Lib.hid (fun (r : Ru) (w : World) => right_calls r w)
  replace hR := Lib.hid hR
  unfold maxLen at hl
  go_enter Tryd.func5, Tryd.ntmps5
  go_wp2
  go_loopw [3] (fun v3 wr => ∃ i : Nat, v3 = .int .i64 i ∧ i ≤ L.length ∧ i ≤ 20 ∧ Hid (Below w.heap.size w wr) ∧ Hid ((L.take i).all rightB = true)) (fun v3 _ => 20 - (intOf v3).toNat)
  case atStart => exact ⟨0, rfl, Nat.zero_le _, Nat.zero_le _, Lib.hid (Below.refl _ _), Lib.hid rfl⟩
  case round =>
    obtain ⟨i, rfl, hi, hi20, HB, HA⟩ := hrel
    by_cases hlt : i < L.length ∧ i < 20
    · obtain ⟨hlt, h20⟩ := hlt
      obtain ⟨ad, rfl, hadb, hra⟩ := (hR.out.below HB.out) (by omega)
      obtain ⟨c0, c1, c2⟩ := hra i hlt
      have hd1 : decide ((i : Int) < (L.length : Int)) = true := decide_eq_true (by omega)
      have hd2 : decide ((i : Int) < 20) = true := decide_eq_true (by omega)
      have hd3 : decide (i < L.length) = true := decide_eq_true hlt
      have hd4 : decide (i < 20) = true := decide_eq_true h20
      cases hr : rightB L[i] with
      | true =>
        have HA2 := Lib.hid (show (L.take (i + 1)).all rightB = true by rw [List.take_succ_eq_append_getElem hlt, List.all_append, HA.out]; simp [hr])
        have RR := RC.out L[i]
        rw [hr] at RR
        replace RR := Lib.hid RR
        clear hra hr
        generalize L[i] = r at *
        go_wp2_with (go_at_call 14; refine (RR.out _).mono ?_; rintro e w3 ⟨rfl, hb3⟩; replace HB := Lib.hid (HB.out.trans (hb3.mono HB.out.size)); clear hb3)
        go_roundw
        case rel => exact ⟨i + 1, by go_num, by omega, by omega, HB, HA2⟩
        case measure => simp [intOf]; omega
      | false =>
        have e1 := Lib.hid (show rightV L = 0 from rightV_no (by
          unfold rightL
          have : L.all rightB = false := by
            rw [List.all_eq_false]
            exact ⟨L[i], List.getElem_mem hlt, by simp [hr]⟩
          rw [this]; simp))
        have RR := RC.out L[i]
        rw [hr] at RR
        replace RR := Lib.hid RR
        clear hra hr
        generalize L[i] = r at *
        go_wp2_with (go_at_call 14; refine (RR.out _).mono ?_; rintro e w3 ⟨rfl, hb3⟩; replace HB := Lib.hid (HB.out.trans (hb3.mono HB.out.size)); clear hb3)
        go_ret
        exact ⟨by rw [e1.out]; rfl, HB.out⟩
    · by_cases h16 : L.length ≤ 16
      · obtain rfl : i = L.length := by omega
        have e1 := Lib.hid (show rightV L = 1 from rightV_yes (by
          have := HA.out
          rw [List.take_length] at this
          unfold rightL
          rw [this, decide_eq_true h16]; rfl))
        clear HA
        go_wp2
        go_ret
        exact ⟨by rw [e1.out]; rfl, HB.out⟩
      · have e1 := Lib.hid (show rightV L = 0 from rightV_no (by unfold rightL; rw [decide_eq_false h16]; rfl))
        have hd5 : decide ((16 : Int) < (L.length : Int)) = true := decide_eq_true (by omega)
        have hd6 : decide (16 < L.length) = true := decide_eq_true (by omega)
        clear HA
        by_cases hx : i < L.length
        · obtain rfl : i = 20 := by omega
          go_wp2
          go_ret
          exact ⟨by rw [e1.out]; rfl, HB.out⟩
        · obtain rfl : i = L.length := by omega
          clear hlt
          go_wp2
          go_ret
          exact ⟨by rw [e1.out]; rfl, HB.out⟩
end Go.Proofs.YtonlbeonblpblaaDoor.A36
namespace Go.Proofs.YtonlbeonblpblaaDoor.A36
open Go.RowKit Go.Proofs.YtonlbeonblpblaaDoorW.PrintWords Go.Proofs.YtonlbeonblpblaaDoorW.PrintLast Go.Proofs.YtonlbeonblpblaaDoorW.PrintMore Go.Proofs.YtonlbeonblpblaaDoor.Wd
set_option linter.unusedVariables false
set_option linter.unusedSimpArgs false
private theorem ymRefT (motive : Option Value → Sort _) (h1 : (b : Bool) → motive (some (.bool b))) (h2 : (x : Option Value) → motive x) : Go.yielded.match_1 motive (some undef) h1 h2 = h2 (some undef) := rfl
attribute [local go_sem, local simp] ymRefT
/-- Values in a row of a type, for good. -/
def RowT (w : World) (A : Option Addr) (t : TypeId) (xs : List Value) : Prop := 0 < xs.length → ∃ q cs, A = some ⟨q, 0, none⟩ ∧ w.heap[q]? = some (.cells cs t) ∧ ∀ (j : Nat) (u : Value), xs[j]? = some u → cs[j]? = some u
theorem RowT.below {w w2 : World} {A : Option Addr} {t : TypeId} {xs : List Value} (h : RowT w A t xs) (hb : Below w.heap.size w w2) : RowT w2 A t xs := fun h0 => by
  obtain ⟨q, cs, h1, h2, h3⟩ := h h0
  exact ⟨q, cs, h1, (hb.block q (lt_heap h2)).trans h2, h3⟩
theorem RowT.kept {w w2 : World} {A : Option Addr} {t : TypeId} {xs : List Value} (h : RowT w A t xs) (hk : ∀ (q : Nat) cs, w.heap[q]? = some (Obj.cells cs t) → w2.heap[q]? = some (Obj.cells cs t)) : RowT w2 A t xs := fun h0 => by
  obtain ⟨q, cs, h1, h2, h3⟩ := h h0
  exact ⟨q, cs, h1, hk q cs h2, h3⟩
theorem RowT.at_ {w : World} {A : Option Addr} {t : TypeId} {xs : List Value} (h : RowT w A t xs) {k : Nat} (hk : k < xs.length) : ∃ q, A = some ⟨q, 0, none⟩ ∧ w.cell? { block := q, off := k } = some xs[k] := by
  obtain ⟨q, cs, h1, h2, h3⟩ := h (by omega)
  exact ⟨q, h1, (cell_of_row w q k cs _ (0, 0) h2).trans (h3 _ _ (List.getElem?_eq_getElem hk))⟩
theorem RowT.reads {w : World} {A : Option Addr} {t : TypeId} {xs : List Value} (h : RowT w A t xs) : Reads w w.heap.size 1 A xs.length xs := by
  refine ⟨by simp, fun h0 => ?_⟩
  obtain ⟨q, cs, h1, h2, h3⟩ := h h0
  refine ⟨_, h1, lt_heap h2, fun j u hu => ?_⟩
  have e : Addr.add ⟨q, 0, none⟩ j = ⟨q, j, none⟩ := by
    unfold Addr.add
    split
    · subst_vars; rfl
    · simp
  rw [e, cell_of_row w q j cs _ (0, 0) h2]
  exact h3 _ _ hu
theorem RowT.own {w : World} {base : Nat} {t : TypeId} {A : Option Addr} {n c : Nat} {xs : List Value} (h : w.ownsRow base t 1 (.slice A n c) n xs) : RowT w A t xs := fun h0 => by
  have hn : n = xs.length := by have := h.1; omega
  obtain ⟨q, cur, e1, _, e3, _, _, e6⟩ := own_row h (by omega)
  refine ⟨q, cur, e1, e3, fun j u hu => ?_⟩
  rw [← cell_of_row w q j cur _ (0, 0) e3]
  exact e6 j u hu
/-- The document's table. -/
structure XTab (w : World) (g : Nat) (An Am Ao : Option Addr) (cn cm co : Nat) (M : List It) : Prop where
  head : w.heap[g]? = some (.cells #[.slice An M.length cn, .slice Am M.length cm, .slice Ao M.length co] 84)
  n : RowT w An 24 (M.map fun x => .int .u64 x.n)
  m : RowT w Am 3 (M.map fun x => .int .i64 x.m)
  o : RowT w Ao 4 (M.map fun x => .bool x.o)
theorem XTab.below {w w2 : World} {g : Nat} {An Am Ao : Option Addr} {cn cm co : Nat} {M : List It} (h : XTab w g An Am Ao cn cm co M) (hb : Below w.heap.size w w2) : XTab w2 g An Am Ao cn cm co M :=
  ⟨(hb.block g (lt_heap h.head)).trans h.head, h.n.below hb, h.m.below hb, h.o.below hb⟩
theorem XTab.tk {base b : Nat} {w w2 : World} {g : Nat} {An Am Ao : Option Addr} {cn cm co : Nat} {M : List It} {hv : Value} (h : XTab w g An Am Ao cn cm co M) (t : TK base b w w2) (hb : w.heap[b]? = some (.cells #[hv] 91)) : XTab w2 g An Am Ao cn cm co M := by
  have K : ∀ (ty : TypeId) (q : Nat) cs, ty ≠ 91 → ty ≠ 93 → w.heap[q]? = some (Obj.cells cs ty) → w2.heap[q]? = some (Obj.cells cs ty) := fun ty q cs h1 h2 hq => t.kind q _ hq (heap_ne hq hb (fun h => by injection h with _ h; exact h1 h)) (fun cur h => by injection h with _ h; exact h2 h)
  exact ⟨K _ _ _ (by decide) (by decide) h.head, h.n.kept fun q cs hq => K _ _ _ (by decide) (by decide) hq, h.m.kept fun q cs hq => K _ _ _ (by decide) (by decide) hq, h.o.kept fun q cs hq => K _ _ _ (by decide) (by decide) hq⟩
theorem XTab.cells {w : World} {g : Nat} {An Am Ao : Option Addr} {cn cm co : Nat} {M : List It} (h : XTab w g An Am Ao cn cm co M) : w.cell? { block := g, off := 0 } = some (.slice An M.length cn) ∧ w.cell? { block := g, off := 1 } = some (.slice Am M.length cm) ∧ w.cell? { block := g, off := 2 } = some (.slice Ao M.length co) ∧ w.frozen? { block := g, off := 0 } = false ∧ w.frozen? { block := g, off := 1 } = false ∧ w.frozen? { block := g, off := 2 } = false :=
  ⟨cell_of_row w g 0 _ _ (0, 0) h.head, cell_of_row w g 1 _ _ (0, 0) h.head, cell_of_row w g 2 _ _ (0, 0) h.head, frozen_of_row w g 0 _ _ h.head, frozen_of_row w g 1 _ _ h.head, frozen_of_row w g 2 _ _ h.head⟩
theorem u64_info : (Tryd.prog.info? 24).map (fun i => (i.zero, i.size, i.bytes)) = some (some (.int .u64 0), 1, 8) := by kernel_rfl
theorem bool_info : (Tryd.prog.info? 4).map (fun i => (i.zero, i.size, i.bytes)) = some (some (.bool false), 1, 1) := by kernel_rfl
theorem RowT.readsn {w : World} {A : Option Addr} {t : TypeId} {xs : List Value} (h : RowT w A t xs) (o : Obj) {n : Nat} (hn : xs.length = n) : Reads (w.alloc o) w.heap.size 1 A n xs := by
  subst hn
  exact h.reads.alloc (Nat.le_refl _) o
theorem radd_below {W w1 w2 : World} {t : TypeId} {xs : List Value} {u v1 : Value} {n1 : Nat} (hg1 : (W.alloc (.cells #[] t)).grownBy w1 (Value.slice (some ⟨W.heap.size, 0, none⟩) 0 0).ownBlock) (ho1 : w1.ownsRow W.heap.size t 1 v1 n1 xs) (hg2 : (w1.alloc (.cells #[u] t)).grownBy w2 v1.ownBlock) : Below W.heap.size W w2 := by
  have b1 : Below W.heap.size W w1 := below_via1 (below_alloc (Below.refl _ W) (.cells #[] t)) hg1 rfl rfl rfl rfl (by simp) (own_base (own_empty1 W W.heap.size t W.heap.size (Nat.le_refl _) rfl))
  exact below_via1 (below_alloc b1 (.cells #[u] t)) hg2 rfl rfl rfl rfl (below_alloc b1 (.cells #[u] t)).size (own_base ho1)
-- X3 begins
/-- The document's table in the midst of a moment more: its three rows, each as long as it is now; and what changed since. -/
structure X3 (w W : World) (g : Nat) (An : Option Addr) (n cn : Nat) (Am : Option Addr) (m cm : Nat) (Ao : Option Addr) (o co : Nat) (xs ys zs : List Value) : Prop where
  head : W.heap[g]? = some (.cells #[.slice An n cn, .slice Am m cm, .slice Ao o co] 84)
  rn : RowT W An 24 xs
  rm : RowT W Am 3 ys
  ro : RowT W Ao 4 zs
  chg : Chg (· = g) w W
theorem X3.below {w W W2 : World} {g : Nat} {An : Option Addr} {n cn : Nat} {Am : Option Addr} {m cm : Nat} {Ao : Option Addr} {o co : Nat} {xs ys zs : List Value} (h : X3 w W g An n cn Am m cm Ao o co xs ys zs) (hb : Below W.heap.size W W2) : X3 w W2 g An n cn Am m cm Ao o co xs ys zs :=
  ⟨(hb.block g (lt_heap h.head)).trans h.head, h.rn.below hb, h.rm.below hb, h.ro.below hb, h.chg.trans (Chg.of_below hb)⟩
theorem X3.cells {w W : World} {g : Nat} {An : Option Addr} {n cn : Nat} {Am : Option Addr} {m cm : Nat} {Ao : Option Addr} {o co : Nat} {xs ys zs : List Value} (h : X3 w W g An n cn Am m cm Ao o co xs ys zs) : W.cell? { block := g, off := 0 } = some (.slice An n cn) ∧ W.cell? { block := g, off := 1 } = some (.slice Am m cm) ∧ W.cell? { block := g, off := 2 } = some (.slice Ao o co) ∧ W.frozen? { block := g, off := 0 } = false ∧ W.frozen? { block := g, off := 1 } = false ∧ W.frozen? { block := g, off := 2 } = false :=
  ⟨cell_of_row W g 0 _ _ (0, 0) h.head, cell_of_row W g 1 _ _ (0, 0) h.head, cell_of_row W g 2 _ _ (0, 0) h.head, frozen_of_row W g 0 _ _ h.head, frozen_of_row W g 1 _ _ h.head, frozen_of_row W g 2 _ _ h.head⟩
theorem RowT.setC {W : World} {A : Option Addr} {t t2 : TypeId} {xs : List Value} {g : Nat} {cs : Array Value} (h : RowT W A t xs) (hg : W.heap[g]? = some (Obj.cells cs t2)) (ht : t ≠ t2) (j : Nat) (u : Value) : RowT (W.setCell { block := g, off := j } u) A t xs :=
  h.kept fun q c2 hq => (Below.heap_setCell _ _ _ _ (heap_ne hq hg (fun e => by injection e with _ e; exact ht e))).trans hq
theorem X3.step0 {w W w2 : World} {g base c2 k2 : Nat} {A2 : Option Addr} {xs2 : List Value} {An : Option Addr} {n cn : Nat} {Am : Option Addr} {m cm : Nat} {Ao : Option Addr} {o co : Nat} {xs ys zs : List Value} (h : X3 w W g An n cn Am m cm Ao o co xs ys zs) (ho : w2.ownsRow base 24 1 (.slice A2 k2 c2) k2 xs2) (hb : Below W.heap.size W w2) : X3 w (w2.setCell { block := g, off := 0 } (.slice A2 k2 c2)) g A2 k2 c2 Am m cm Ao o co xs2 ys zs := by
  have hh := (hb.block g (lt_heap h.head)).trans h.head
  refine ⟨?_, (RowT.own ho).setC hh (by decide) 0 _, (h.rm.below hb).setC hh (by decide) 0 _, (h.ro.below hb).setC hh (by decide) 0 _, (h.chg.trans (Chg.of_below hb)).setCell rfl _⟩
  simp [World.setCell, Array.getElem?_modify, hh]
theorem X3.step1 {w W w2 : World} {g base c2 k2 : Nat} {A2 : Option Addr} {xs2 : List Value} {An : Option Addr} {n cn : Nat} {Am : Option Addr} {m cm : Nat} {Ao : Option Addr} {o co : Nat} {xs ys zs : List Value} (h : X3 w W g An n cn Am m cm Ao o co xs ys zs) (ho : w2.ownsRow base 3 1 (.slice A2 k2 c2) k2 xs2) (hb : Below W.heap.size W w2) : X3 w (w2.setCell { block := g, off := 1 } (.slice A2 k2 c2)) g An n cn A2 k2 c2 Ao o co xs xs2 zs := by
  have hh := (hb.block g (lt_heap h.head)).trans h.head
  refine ⟨?_, (h.rn.below hb).setC hh (by decide) 1 _, (RowT.own ho).setC hh (by decide) 1 _, (h.ro.below hb).setC hh (by decide) 1 _, (h.chg.trans (Chg.of_below hb)).setCell rfl _⟩
  simp [World.setCell, Array.getElem?_modify, hh]
theorem X3.step2 {w W w2 : World} {g base c2 k2 : Nat} {A2 : Option Addr} {xs2 : List Value} {An : Option Addr} {n cn : Nat} {Am : Option Addr} {m cm : Nat} {Ao : Option Addr} {o co : Nat} {xs ys zs : List Value} (h : X3 w W g An n cn Am m cm Ao o co xs ys zs) (ho : w2.ownsRow base 4 1 (.slice A2 k2 c2) k2 xs2) (hb : Below W.heap.size W w2) : X3 w (w2.setCell { block := g, off := 2 } (.slice A2 k2 c2)) g An n cn Am m cm A2 k2 c2 xs ys xs2 := by
  have hh := (hb.block g (lt_heap h.head)).trans h.head
  refine ⟨?_, (h.rn.below hb).setC hh (by decide) 2 _, (h.rm.below hb).setC hh (by decide) 2 _, (RowT.own ho).setC hh (by decide) 2 _, (h.chg.trans (Chg.of_below hb)).setCell rfl _⟩
  simp [World.setCell, Array.getElem?_modify, hh]
theorem X3.tab {w W : World} {g n cn cm co : Nat} {An Am Ao : Option Addr} {xs ys zs : List Value} {M : List It} (h : X3 w W g An n cn Am n cm Ao n co xs ys zs) (hn : M.length = n) (hx : M.map (fun x => Value.int .u64 x.n) = xs) (hy : M.map (fun x => Value.int .i64 x.m) = ys) (hz : M.map (fun x => Value.bool x.o) = zs) : XTab W g An Am Ao cn cm co M := by
  subst hn hx hy hz
  exact ⟨h.head, h.rn, h.rm, h.ro⟩
set_option maxRecDepth 100000 in
set_option maxHeartbeats 4000000 in
theorem radd_ok {w : World} {g : Nat} {An Am Ao : Option Addr} {cn cm co : Nat} {M : List It} (h : XTab w g An Am Ao cn cm co M) (num m : Int) (h1 : 1 ≤ num) (h2 : num ≤ 65535) (h3 : 0 ≤ m) (h4 : m ≤ 1073741824) (hl : M.length ≤ 1000) (ha : ∀ x ∈ M, x.n < num ∧ x.m ≤ m) :
    Calls Tryd.prog 29 #[.pointer (some ⟨g, 0, none⟩), .int .u64 num, .int .i64 m] w fun e w' => e = .returned (.int .i64 0) ∧ (∃ An Am Ao cn cm co, XTab w' g An Am Ao cn cm co (M ++ [⟨num, m, false⟩])) ∧ Chg (· = g) w w' := by
  obtain ⟨iu, hiu, zu0, zu1, zu2⟩ := info_parts u64_info
  obtain ⟨ii, hii, zi0, zi1, zi2⟩ := info_parts int_info
  obtain ⟨ib, hib, zb0, zb1, zb2⟩ := info_parts bool_info
  have hiu' := Lib.hid hiu
  have hii' := Lib.hid hii
  have hib' := Lib.hid hib
  clear hiu hii hib
  have H := Lib.hid h
  obtain ⟨x0, x1, x2, f0, f1, f2⟩ := h.cells
  have HA := Lib.hid ha
  clear h ha
  have r1 : decide (num < 1) = false := decide_eq_false (by omega)
  have r2 : decide (65535 < num) = false := decide_eq_false (by omega)
  have r3 : decide (m < 0) = false := decide_eq_false (by omega)
  have r4 : decide (1073741824 < m) = false := decide_eq_false (by omega)
  go_enter Tryd.func29, Tryd.ntmps29
  go_wp2
  go_loop [7] (fun v7 => ∃ i : Nat, v7 = .int .i64 i ∧ i ≤ M.length) (fun v7 => M.length - (intOf v7).toNat)
  case atStart => exact ⟨0, rfl, Nat.zero_le _⟩
  case round =>
    obtain ⟨i, rfl, hi⟩ := hrel
    by_cases hlt : i < M.length
    · obtain ⟨q1, e1, c1⟩ := H.out.n.at_ (k := i) (by simpa using hlt)
      obtain ⟨q2, e2, c2⟩ := H.out.m.at_ (k := i) (by simpa using hlt)
      rw [List.getElem_map] at c1 c2
      obtain ⟨a1, a2⟩ := HA.out _ (List.getElem_mem hlt)
      subst e1 e2
      generalize M[i] = y at *
      have s1 : decide (num ≤ y.n) = false := decide_eq_false (by omega)
      have s2 : decide (m < y.m) = false := decide_eq_false (by omega)
      go_wp2
      go_round
      case rel => exact ⟨i + 1, by go_num, by omega⟩
      case measure => simp [intOf]; omega
    · obtain rfl : i = M.length := by omega
      have X0 := Lib.hid (show X3 w w g An M.length cn Am M.length cm Ao M.length co _ _ _ from ⟨H.out.head, H.out.n, H.out.m, H.out.o, Chg.refl _ w⟩)
      go_upto_region 8 with fail
      clear HA x0 x1 x2 f0 f1 f2
      have hx0 := Lib.hid (show (0 + M.length ≤ maxLen ∧ (0 + M.length) * 8 ≤ 140737488355328) ∧ (M.length + 1 ≤ maxLen ∧ (M.length + 1) * 8 ≤ 140737488355328) by unfold maxLen; omega)
      have o0 : Hid (∀ u ∈ M.map (fun x => Value.int .u64 x.n), u.oneCell' = true) := Lib.hid (by simp [Value.oneCell'])
      have R0 := Lib.hid (X0.out.rn.readsn (.cells #[] 24) (n := M.length) (by simp))
      have xa := (X0.out.below (below_alloc (Below.refl _ w) (.cells #[] 24))).cells.1
      go_upto_region 9 with (first
        | (at_builtin
           refine wpList_append_any _ rfl _ _ 80 rfl w.heap.size 24 iu _ 1 8 Tryd.underlying80 hiu'.out zu0 zu1 zu2 rfl (by decide) (.slice (some ⟨w.heap.size, 0, none⟩) 0 0) 0 [] rfl (own_empty1 w w.heap.size 24 w.heap.size (Nat.le_refl _) rfl) _ _ M.length cn _ rfl R0.out o0.out hx0.out.1.1 hx0.out.1.2 (by simp) ?_
           intro v1 w1 ho1 hg1 ha1
           rw [Nat.zero_add, List.nil_append] at ho1
           obtain ⟨A1, c1, rfl, hcap1⟩ := own_slice_cap ho1
           replace ho1 := Lib.hid ho1
           replace hg1 := Lib.hid hg1
           clear ha1 hcap1)
        | (at_builtin
           refine wpList_append_any _ rfl _ _ 80 rfl w.heap.size 24 iu _ 1 8 Tryd.underlying80 hiu'.out zu0 zu1 zu2 rfl (by decide) _ _ _ rfl (World.ownsRow.alloc ho1.out (.cells #[.int .u64 num] 24)) _ _ 1 1 [.int .u64 num] rfl (reads_one (heap_alloc_new w1 (.cells #[.int .u64 num] 24))) (by simp [Value.oneCell']) hx0.out.2.1 hx0.out.2.2 (below_alloc (below_via1 (below_alloc (Below.refl _ w) (.cells #[] 24)) hg1.out rfl rfl rfl rfl (by simp) (own_base (own_empty1 w w.heap.size 24 w.heap.size (Nat.le_refl _) rfl))) (.cells #[.int .u64 num] 24)).size ?_
           intro v2 w2 ho2 hg2 ha2
           obtain ⟨A2, c2, rfl, hcap2⟩ := own_slice_cap ho2
           have B2 := radd_below hg1.out ho1.out hg2
           obtain ⟨y0, y1, y2, k0, k1, k2⟩ := (X0.out.below B2).cells
           have X1 := Lib.hid (X0.out.step0 ho2 B2)
           clear ha2 hcap2 hg2 ho1 hg1 ho2 B2))
      clear y0 y1 y2 k0 k1 k2 xa R0 o0 hx0
      generalize w2.setCell _ _ = W1 at *
      clear X0
      have hx1 := Lib.hid (show (0 + M.length ≤ maxLen ∧ (0 + M.length) * 8 ≤ 140737488355328) ∧ (M.length + 1 ≤ maxLen ∧ (M.length + 1) * 8 ≤ 140737488355328) by unfold maxLen; omega)
      have o1 : Hid (∀ u ∈ M.map (fun x => Value.int .i64 x.m), u.oneCell' = true) := Lib.hid (by simp [Value.oneCell'])
      have R1 := Lib.hid (X1.out.rm.readsn (.cells #[] 3) (n := M.length) (by simp))
      have xa := (X1.out.below (below_alloc (Below.refl _ W1) (.cells #[] 3))).cells.2.1
      go_upto_region 10 with (first
        | (at_builtin
           refine wpList_append_any _ rfl _ _ 81 rfl W1.heap.size 3 ii _ 1 8 Tryd.underlying81 hii'.out zi0 zi1 zi2 rfl (by decide) (.slice (some ⟨W1.heap.size, 0, none⟩) 0 0) 0 [] rfl (own_empty1 W1 W1.heap.size 3 W1.heap.size (Nat.le_refl _) rfl) _ _ M.length cm _ rfl R1.out o1.out hx1.out.1.1 hx1.out.1.2 (by simp) ?_
           intro v1 w1 ho1 hg1 ha1
           rw [Nat.zero_add, List.nil_append] at ho1
           obtain ⟨A1, c1, rfl, hcap1⟩ := own_slice_cap ho1
           replace ho1 := Lib.hid ho1
           replace hg1 := Lib.hid hg1
           clear ha1 hcap1)
        | (at_builtin
           refine wpList_append_any _ rfl _ _ 81 rfl W1.heap.size 3 ii _ 1 8 Tryd.underlying81 hii'.out zi0 zi1 zi2 rfl (by decide) _ _ _ rfl (World.ownsRow.alloc ho1.out (.cells #[.int .i64 m] 3)) _ _ 1 1 [.int .i64 m] rfl (reads_one (heap_alloc_new w1 (.cells #[.int .i64 m] 3))) (by simp [Value.oneCell']) hx1.out.2.1 hx1.out.2.2 (below_alloc (below_via1 (below_alloc (Below.refl _ W1) (.cells #[] 3)) hg1.out rfl rfl rfl rfl (by simp) (own_base (own_empty1 W1 W1.heap.size 3 W1.heap.size (Nat.le_refl _) rfl))) (.cells #[.int .i64 m] 3)).size ?_
           intro v2 w2 ho2 hg2 ha2
           obtain ⟨A2, c2, rfl, hcap2⟩ := own_slice_cap ho2
           have B2 := radd_below hg1.out ho1.out hg2
           obtain ⟨y0, y1, y2, k0, k1, k2⟩ := (X1.out.below B2).cells
           have X2 := Lib.hid (X1.out.step1 ho2 B2)
           clear ha2 hcap2 hg2 ho1 hg1 ho2 B2))
      clear y0 y1 y2 k0 k1 k2 xa R1 o1 hx1
      generalize w2.setCell _ _ = W2 at *
      clear X1
      have hx2 := Lib.hid (show (0 + M.length ≤ maxLen ∧ (0 + M.length) * 1 ≤ 140737488355328) ∧ (M.length + 1 ≤ maxLen ∧ (M.length + 1) * 1 ≤ 140737488355328) by unfold maxLen; omega)
      have o2 : Hid (∀ u ∈ M.map (fun x => Value.bool x.o), u.oneCell' = true) := Lib.hid (by simp [Value.oneCell'])
      have R2 := Lib.hid (X2.out.ro.readsn (.cells #[] 4) (n := M.length) (by simp))
      have xa := (X2.out.below (below_alloc (Below.refl _ W2) (.cells #[] 4))).cells.2.2.1
      go_wp2_with (first
        | (at_builtin
           refine wpList_append_any _ rfl _ _ 82 rfl W2.heap.size 4 ib _ 1 1 Tryd.underlying82 hib'.out zb0 zb1 zb2 rfl (by decide) (.slice (some ⟨W2.heap.size, 0, none⟩) 0 0) 0 [] rfl (own_empty1 W2 W2.heap.size 4 W2.heap.size (Nat.le_refl _) rfl) _ _ M.length co _ rfl R2.out o2.out hx2.out.1.1 hx2.out.1.2 (by simp) ?_
           intro v1 w1 ho1 hg1 ha1
           rw [Nat.zero_add, List.nil_append] at ho1
           obtain ⟨A1, c1, rfl, hcap1⟩ := own_slice_cap ho1
           replace ho1 := Lib.hid ho1
           replace hg1 := Lib.hid hg1
           clear ha1 hcap1)
        | (at_builtin
           refine wpList_append_any _ rfl _ _ 82 rfl W2.heap.size 4 ib _ 1 1 Tryd.underlying82 hib'.out zb0 zb1 zb2 rfl (by decide) _ _ _ rfl (World.ownsRow.alloc ho1.out (.cells #[.bool false] 4)) _ _ 1 1 [.bool false] rfl (reads_one (heap_alloc_new w1 (.cells #[.bool false] 4))) (by simp [Value.oneCell']) hx2.out.2.1 hx2.out.2.2 (below_alloc (below_via1 (below_alloc (Below.refl _ W2) (.cells #[] 4)) hg1.out rfl rfl rfl rfl (by simp) (own_base (own_empty1 W2 W2.heap.size 4 W2.heap.size (Nat.le_refl _) rfl))) (.cells #[.bool false] 4)).size ?_
           intro v2 w2 ho2 hg2 ha2
           obtain ⟨A2, c2, rfl, hcap2⟩ := own_slice_cap ho2
           have B2 := radd_below hg1.out ho1.out hg2
           obtain ⟨y0, y1, y2, k0, k1, k2⟩ := (X2.out.below B2).cells
           have X3 := Lib.hid (X2.out.step2 ho2 B2)
           clear ha2 hcap2 hg2 ho1 hg1 ho2 B2))
      go_ret
      exact ⟨rfl, ⟨_, _, _, _, _, _, X3.out.tab (by simp) (by simp) (by simp) (by simp)⟩, X3.out.chg⟩
end Go.Proofs.YtonlbeonblpblaaDoor.A36
namespace Go.Proofs.YtonlbeonblpblaaDoor.A36
open Go.RowKit Go.Proofs.YtonlbeonblpblaaDoorW.PrintWords Go.Proofs.YtonlbeonblpblaaDoorW.PrintLast Go.Proofs.YtonlbeonblpblaaDoorW.PrintMore Go.Proofs.YtonlbeonblpblaaDoor.Wd
set_option linter.unusedVariables false
set_option linter.unusedSimpArgs false
/-- The minute after so many steps. -/
def mkS (L : List Int) (i : Nat) : Int := (L.take i).sum
/-- The rows after so many steps. -/
def mkM (L : List Int) (i : Nat) : List It := (List.range i).map fun (j : Nat) => (⟨((j : Nat) : Int) + 1, mkS L (j + 1), false⟩ : It)
def Steps (L : List Int) : Prop := ∀ x ∈ L, 0 ≤ x ∧ x ≤ 255
theorem mkS_zero (L : List Int) : mkS L 0 = 0 := by simp [mkS]
theorem mkS_succ (L : List Int) {i : Nat} (h : i < L.length) : mkS L (i + 1) = mkS L i + L[i] := by
  unfold mkS
  rw [List.take_succ_eq_append_getElem h, List.sum_append]
  simp
theorem mkM_length (L : List Int) (i : Nat) : (mkM L i).length = i := by simp [mkM]
theorem mkM_zero (L : List Int) : mkM L 0 = [] := rfl
theorem mkM_succ (L : List Int) (i : Nat) : mkM L (i + 1) = mkM L i ++ [⟨(i : Int) + 1, mkS L (i + 1), false⟩] := by
  unfold mkM
  rw [List.range_succ, List.map_append]
  rfl
theorem mkS_le {L : List Int} (hs : Steps L) (i : Nat) (h : i ≤ L.length) : 0 ≤ mkS L i ∧ mkS L i ≤ 255 * i := by
  induction i with
  | zero => rw [mkS_zero]; omega
  | succ k ih =>
    rw [mkS_succ L (by omega)]
    have h1 := hs L[k] (List.getElem_mem _)
    have h2 := ih (by omega)
    omega
theorem mkS_mono {L : List Int} (hs : Steps L) (i j : Nat) (hij : i ≤ j) (h : j ≤ L.length) : mkS L i ≤ mkS L j := by
  induction j with
  | zero => obtain rfl : i = 0 := by omega
            exact Int.le_refl _
  | succ k ih =>
    by_cases e : i = k + 1
    · subst e; exact Int.le_refl _
    · rw [mkS_succ L (by omega)]
      have h1 := hs L[k] (List.getElem_mem _)
      have h2 := ih (by omega) (by omega)
      omega
theorem mkM_mem {L : List Int} (hs : Steps L) {i : Nat} (h : i ≤ L.length) {x : It} (hx : x ∈ mkM L i) : 1 ≤ x.n ∧ x.n ≤ i ∧ 0 ≤ x.m ∧ x.m ≤ mkS L i ∧ x.o = false := by
  unfold mkM at hx
  obtain ⟨j, hj, rfl⟩ := List.mem_map.1 hx
  have hj := List.mem_range.1 hj
  have h1 := mkS_mono hs (j + 1) i (by omega) h
  have h2 := (mkS_le hs (j + 1) (by omega)).1
  refine ⟨?_, ?_, h2, h1, rfl⟩ <;> (simp only; omega)
theorem mkM_good {L : List Int} (hs : Steps L) {i : Nat} (h : i ≤ L.length) (h3 : i ≤ 30) : Good (mkM L i) := by
  refine ⟨?_, fun x hx => ?_, by rw [mkM_length]; omega⟩
  · intro a b ha hb hab
    have e : ∀ (k : Nat) (hk : k < (mkM L i).length), ((mkM L i)[k]).n = (k : Int) + 1 := fun k hk => by simp [mkM]
    rw [e a ha, e b hb]
    omega
  · have h1 := mkM_mem hs h hx
    have h2 := mkS_le hs i h
    omega
theorem mkM_ahead {L : List Int} (hs : Steps L) {i : Nat} (h : i < L.length) {x : It} (hx : x ∈ mkM L i) : x.n < (i : Int) + 1 ∧ x.m ≤ mkS L (i + 1) := by
  have h1 := mkM_mem hs (by omega) hx
  have h2 := mkS_mono hs i (i + 1) (by omega) (by omega)
  omega
theorem mk_add {L : List Int} (hs : Steps L) {i : Nat} (h : i < L.length) (h3 : i < 30) : addC (mkM L i) ((i : Int) + 1) (mkS L (i + 1)) = 0 := by
  have h1 := mkS_le hs (i + 1) (by omega)
  unfold addC
  rw [if_neg (by omega), if_neg]
  rintro ⟨h0, h4⟩
  rw [mkM_length] at h0 h4
  have hlt : i - 1 < (mkM L i).length := by rw [mkM_length]; omega
  rw [List.getD_eq_getElem?_getD, List.getElem?_eq_getElem hlt] at h4
  have h5 := mkM_ahead hs h (List.getElem_mem hlt)
  simp only [Option.getD_some] at h4
  omega
theorem mk_addM {L : List Int} (hs : Steps L) {i : Nat} (h : i < L.length) (h3 : i < 30) : addM (mkM L i) ((i : Int) + 1) (mkS L (i + 1)) = mkM L (i + 1) := by
  unfold addM
  rw [if_pos (mk_add hs h h3), mkM_succ]
end Go.Proofs.YtonlbeonblpblaaDoor.A36
namespace Go.Proofs.YtonlbeonblpblaaDoor.A36
open Go.RowKit Go.Proofs.YtonlbeonblpblaaDoorW.PrintWords Go.Proofs.YtonlbeonblpblaaDoorW.PrintLast Go.Proofs.YtonlbeonblpblaaDoorW.PrintMore Go.Proofs.YtonlbeonblpblaaDoor.Wd
set_option linter.unusedVariables false
set_option linter.unusedSimpArgs false
private theorem ymMadeW (motive : Option Value → Sort _) (h1 : (b : Bool) → motive (some (.bool b))) (h2 : (x : Option Value) → motive x) : Go.yielded.match_1 motive (some undef) h1 h2 = h2 (some undef) := rfl
attribute [local go_sem, local simp] ymMadeW
/-- Both tables after so many steps. -/
structure MK (w wr : World) (g : Nat) (N N2 : List It) : Prop where
  t : ∃ A c, TAt wr w.heap.size w.heap.size A c N
  x : ∃ An Am Ao cn cm co, XTab wr g An Am Ao cn cm co N2
  bel : Below w.heap.size w wr
  g1 : w.heap.size < g
theorem MK.add {w wr w2 : World} {g : Nat} {N N2 N' : List It} (h : MK w wr g N N2) (ht : ∃ A c, TAt w2 w.heap.size w.heap.size A c N') (hk : TK w.heap.size w.heap.size wr w2) : MK w w2 g N' N2 := by
  obtain ⟨A, c, h1⟩ := h.t
  obtain ⟨An, Am, Ao, cn, cm, co, h2⟩ := h.x
  exact ⟨ht, ⟨_, _, _, _, _, _, h2.tk hk h1.head⟩, hk.below h.bel (Nat.le_refl _) (Nat.le_refl _) h.bel.size, h.g1⟩
theorem MK.radd {w wr w2 : World} {g : Nat} {N N2 N' : List It} (h : MK w wr g N N2) (hx : ∃ An Am Ao cn cm co, XTab w2 g An Am Ao cn cm co N') (hk : Chg (· = g) wr w2) : MK w w2 g N N' := by
  obtain ⟨A, c, h1⟩ := h.t
  obtain ⟨An, Am, Ao, cn, cm, co, h2⟩ := h.x
  have hg := h.g1
  refine ⟨⟨A, c, ⟨hk.old h1.head (by omega), own_chg h1.own hk (fun k cur hq e => ?_)⟩⟩, hx, hk.below h.bel h.bel.size (fun k e => by subst e; omega), hg⟩
  subst e
  exact heap_ne hq h2.head (by intro e; injection e with _ e; exact absurd e (by decide)) rfl
theorem mk_start {w w1 : World} (ht : TAt w1 w.heap.size w.heap.size none 0 []) (hb : Below w.heap.size w w1) : MK w (w1.alloc (.cells #[.slice none 0 0, .slice none 0 0, .slice none 0 0] 84)) w1.heap.size [] [] :=
  ⟨⟨_, _, ht.below (below_alloc (Below.refl _ _) _)⟩, ⟨none, none, none, 0, 0, 0, ⟨heap_alloc_new _ _, fun h => absurd h (by simp), fun h => absurd h (by simp), fun h => absurd h (by simp)⟩⟩, hb.trans ((below_alloc (Below.refl _ w1) _).mono hb.size), lt_heap ht.head⟩
set_option maxRecDepth 100000 in
set_option maxHeartbeats 4000000 in
theorem made_calls {w : World} {B : Nat} {P : Option Addr} {cs : Nat} {L : List Int} (hr : Reads w B 1 P L.length (L.map (Value.int .u8))) (hB : B ≤ w.heap.size) (hs : Steps L) (h30 : L.length ≤ 30) :
    Calls Tryd.prog 9 #[.slice P L.length cs, .int .u64 0, .int .u64 0] w fun e w' => ∃ b g, e = .returned (.tuple #[.pointer (some ⟨b, 0, none⟩), .pointer (some ⟨g, 0, none⟩)]) ∧ (∃ base A c, w.heap.size ≤ base ∧ w.heap.size ≤ b ∧ base ≤ w'.heap.size ∧ TAt w' base b A c (mkM L L.length)) ∧ (∃ An Am Ao cn cm co, XTab w' g An Am Ao cn cm co (mkM L L.length)) ∧ Below w.heap.size w w' := by
  have hr' := Lib.hid hr
  have hs' := Lib.hid hs
  clear hr hs
  have N := Lib.hid (new_calls w)
  go_enter Tryd.func9, Tryd.ntmps9
  go_upto_region 2 with (go_at_call 12; refine N.out.mono ?_; rintro e1 w1 ⟨rfl, ht1, hb1⟩; replace ht1 := Lib.hid ht1; replace hb1 := Lib.hid hb1)
  go_upto_region 3 with fail
  have M0 := Lib.hid (mk_start ht1.out hb1.out)
  clear N ht1 hb1
  generalize w1.heap.size = g at *
  go_wp2
  go_loopw [10, 11] (fun v10 v11 wr => ∃ i : Nat, v11 = .int .i64 i ∧ i ≤ L.length ∧ v10 = .int .i64 (mkS L i) ∧ Hid (MK w wr g (mkM L i) (mkM L i))) (fun _ v11 _ => L.length - (intOf v11).toNat)
  case atStart => exact ⟨0, rfl, Nat.zero_le _, rfl, M0⟩
  case round =>
    obtain ⟨i, rfl, hi, rfl, hm⟩ := hrel
    by_cases hlt : i < L.length
    · obtain ⟨ad, u, e1, e2, e3, e4⟩ := (hr'.out.below (hm.out.bel.mono hB)).at_ hlt
      rw [List.getElem?_map, List.getElem?_eq_getElem hlt] at e3
      injection e3 with e3
      subst e1 e3
      have ht := Lib.hid hm.out.t
      obtain ⟨A, c, h1⟩ := hm.out.t
      have hb := mkS_le hs'.out (i + 1) hlt
      have h30' : i < 30 := by omega
      have d1 : IntKind.i64.wrap ((i : Int) + 1) = (i : Int) + 1 := IntWalk.i64_in _ (by omega)
      have d2 : IntKind.u64.wrap ((i : Int) + 1) = (i : Int) + 1 := IntWalk.u64_in _ (by omega)
      have d3 : IntKind.i64.wrap (mkS L i + L[i]) = mkS L (i + 1) := by rw [← mkS_succ L hlt]; exact IntWalk.i64_in _ (by omega)
      have A1 := Lib.hid (add_calls h1 ((i : Int) + 1) (mkS L (i + 1)) (by rw [mkM_length]; omega) hm.out.bel.size)
      have yb := hs'.out L[i] (List.getElem_mem hlt)
      have d4 : wrap64 L[i] = L[i] := (i64_w _).symm.trans (IntWalk.i64_in _ (by omega))
      have d5 : wrap64 (mkS L i + L[i]) = mkS L (i + 1) := (i64_w _).symm.trans d3
      clear h1
      have q1 : decide ((i : Int) < 30) = true := decide_eq_true (by omega)
      have q2 : decide (i < 30) = true := decide_eq_true h30'
      have q3 : decide ((i : Int) < (L.length : Int)) = true := decide_eq_true (by omega)
      generalize L[i] = y at *
      go_upto_region 8 with (go_at_call 13; (with_reducible refine A1.out.mono ?_); rintro e5 w5 ⟨rfl, h5, t5⟩; rw [mk_add hs'.out hlt h30'] ; rw [mk_addM hs'.out hlt h30'] at h5; have M1 := Lib.hid (hm.out.add h5 t5); clear h5 t5 A1)
      obtain ⟨An, Am, Ao, cn, cm, co, hx⟩ := M1.out.x
      have A2 := Lib.hid (radd_ok hx ((i : Int) + 1) (mkS L (i + 1)) (by omega) (by omega) (by omega) (by omega) (by rw [mkM_length]; omega) (fun x hx => mkM_ahead hs'.out hlt hx))
      clear hx
      go_wp2_with (go_at_call 29; (with_reducible refine A2.out.mono ?_); rintro e6 w6 ⟨rfl, h6, t6⟩; rw [← mkM_succ] at h6; have M2 := Lib.hid (M1.out.radd h6 t6); clear h6 t6 A2)
      go_round
      case rel => exact ⟨i + 1, by go_num, by omega, rfl, M2⟩
      case measure => simp [intOf]; omega
    · obtain rfl : i = L.length := by omega
      have hx := Lib.hid hm.out
      go_wp2
      go_loop [12] (fun v12 => ∃ j : Nat, v12 = .int .i64 j ∧ j ≤ L.length) (fun v12 => L.length - (intOf v12).toNat)
      case atStart => exact ⟨0, rfl, Nat.zero_le _⟩
      case round =>
        obtain ⟨j, rfl, hj⟩ := hrel
        by_cases hlt2 : j < L.length
        · have q2 : decide (j < 30) = true := decide_eq_true (by omega)
          have q3 : decide ((j : Int) < 30) = true := decide_eq_true (by omega)
          have q4 : decide ((j : Int) < (L.length : Int)) = true := decide_eq_true (by omega)
          have d6 : IntKind.i64.wrap ((j : Int) + 1) = (j : Int) + 1 := IntWalk.i64_in _ (by omega)
          go_wp2
          exact ⟨⟨j + 1, by go_num, by omega⟩, by simp [intOf]; omega⟩
        · obtain rfl : j = L.length := by omega
          go_wp2
          go_ret2
          obtain ⟨A, c, h1⟩ := hm.out.t
          exact ⟨_, _, rfl, ⟨_, Nat.le_refl _, Nat.le_refl _, hm.out.bel.size, A, c, h1⟩, hm.out.x, hm.out.bel⟩
end Go.Proofs.YtonlbeonblpblaaDoor.A36
